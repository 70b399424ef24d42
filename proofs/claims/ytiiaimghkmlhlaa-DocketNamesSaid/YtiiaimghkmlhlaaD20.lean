/- The examples; DocketDays. No conditions. -/
import Derived.Test.YtiiaimghkmlhlaaD8
namespace Go.Proofs.Ytiiaimghkmlhlaa
open Go.Ev Go.ChangeShapes Go.WideShapes Go.ChangeAt Go.RowKit
set_option linter.all false
def isC (c : Cs) (e s d a : Int) : Bool := e == 0 && c.st == s && c.due == d && c.aw == a
def Fis : List D → Option (Bool × List D)
  | [.agg [.v (.int .i64 an), .v (.int .i64 ev), .v (.int .i64 de), .v (.int .i64 ex), .v (.int .i64 cl), .v (.int .u8 st), .v (.int .i64 day), .v (.int .i64 due), .v (.int .i64 xd), .v (.int .i64 e0), .v (.int .i64 e1), .v (.int .i64 aw)], .v (.int .i64 e), .v (.int .u8 s), .v (.int .i64 d), .v (.int .i64 a)] => some (true, [.v (.bool (isC ⟨an, ev, de, ex, cl, st, day, due, xd, e0, e1, aw⟩ e s d a))])
  | _ => none
theorem tis (c : Cs) (e s d a : Int) : evF C0 6 36 [csD c, .v (i64 e), .v (u8 s), .v (i64 d), .v (i64 a)] =
    br (e == 0) (br (c.st == s) (br (c.due == d) (some [.v (.bool (c.aw == a))]) (some [.v (.bool (false))])) (some [.v (.bool (false))])) (some [.v (.bool (false))]) := by kernel_rfl
theorem den_is : Den Try.prog 36 Fis := evF_den C0_ok fun ds rs h => by
  unfold Fis at h
  split at h
  · rename_i an ev de ex cl st day due xd e0 e1 aw e s d a
    cases h
    refine (tis ⟨an, ev, de, ex, cl, st, day, due, xd, e0, e1, aw⟩ e s d a).trans ?_
    dsimp only [isC]
    cases (e == 0) <;> cases (st == s) <;> cases (due == d) <;> rfl
  · cases h
noncomputable def C19 : Cx := mkCx Try.prog fns [(30, Fin), (29, Fterms), (35, Flive), (16, Fchk), (12, Fat), (10, Fop), (36, Fis), (37, Fevt)] []
theorem C19_ok : CxOk C19 := mkCx_ok enter mixed (fun p h => by
  simp only [List.mem_cons, List.not_mem_nil, or_false] at h
  rcases h with rfl | rfl | rfl | rfl | rfl | rfl | rfl | rfl
  · exact den_in
  · exact den_terms
  · exact den_live
  · exact den_chk
  · exact den_at
  · exact den_op
  · exact den_is
  · exact den_val) (fun l h => by cases h)
theorem talive : evF C19 6 19 [] = some [.v (.bool true)] := by kernel_rfl
def Ftrue : List D → Option (Bool × List D)
  | [] => some (true, [.v (.bool true)])
  | _ => none
theorem den_alive : Den Try.prog 19 Ftrue := evF_den C19_ok fun ds rs h => by
  unfold Ftrue at h
  split at h
  · cases h
    exact talive
  · cases h
noncomputable def C20 : Cx := mkCx Try.prog fns [(19, Ftrue), (17, Fchk), (12, Fat), (20, Flive)] []
theorem C20_ok : CxOk C20 := mkCx_ok enter mixed (fun p h => by
  simp only [List.mem_cons, List.not_mem_nil, or_false] at h
  rcases h with rfl | rfl | rfl | rfl
  · exact den_alive
  · exact den_chkr
  · exact den_at
  · exact den_liver) (fun l h => by cases h)
theorem tdays (c : Cs) (d e : Int) : evF C20 6 4 [csD c, .v (i64 d), .v (i64 e)] =
    br (u8B c.st) (br (chkE c != 0) (some [.v (.bool (true))]) (br (u8B c.st) (br (u8B c.st) (br (atE c d != 0) (some [.v (.bool (true))]) (br (atE c e != 0) (some [.v (.bool (true))]) (br (decide (e < d)) (some [.v (.bool (true))]) (br (u8B (atC c d).st) (br (atE (atC c d) e != 0) (some [.v (.bool (false))]) (br (!((atC (atC c d) e).an == (atC c e).an && ((atC (atC c d) e).ev == (atC c e).ev && ((atC (atC c d) e).de == (atC c e).de && ((atC (atC c d) e).ex == (atC c e).ex && true))) && ((atC (atC c d) e).cl == (atC c e).cl && ((atC (atC c d) e).st == (atC c e).st && ((atC (atC c d) e).day == (atC c e).day && ((atC (atC c d) e).due == (atC c e).due && ((atC (atC c d) e).xd == (atC c e).xd && ((atC (atC c d) e).e0 == (atC c e).e0 && ((atC (atC c d) e).e1 == (atC c e).e1 && true) && ((atC (atC c d) e).aw == (atC c e).aw && true))))))))) (some [.v (.bool (false))]) (br (!liveB (atC c e).st) (some [.v (.bool (true))]) (some [.v (.bool (decide (e ≤ IntKind.i64.wrap (c.due + c.de))))])))) (none))))) (none)) (none))) (none) := by kernel_rfl

theorem at_at {c : Cs} {d e : Int} (h1 : atE c d = 0) (h2 : atE c e = 0) (h3 : d ≤ e) : atE (atC c d) e = 0 ∧ atC (atC c d) e = atC c e := by
  obtain ⟨hg, hg2, _, _, _, _, _, f7, _, _, _⟩ := at_good h1
  obtain ⟨_, _, _, _, _, _, _, _, k1, k2, k3⟩ := at_good h2
  have h4 : atE (atC c d) e = 0 := by
    unfold atE
    rw [if_neg (by simpa using hg2), if_neg (by omega), if_neg (by omega)]
  refine ⟨h4, ?_⟩
  have e1 : atC c e = stepC c e := if_pos h2
  have e2 : atC (atC c d) e = stepC (atC c d) e := if_pos h4
  have e3 : atC c d = stepC c d := if_pos h1
  rw [e2, e1, e3]
  simp only [goodC, termsP] at hg
  unfold stepC
  by_cases a1 : c.st = 1
  · by_cases a2 : c.due < d
    · have a3 : c.due < e := by omega
      simp [a1, a2, a3]
    · by_cases a3 : c.due < e <;> simp [a1, a2, a3]
  · by_cases b1 : c.st = 2
    · by_cases a2 : c.due < d
      · have a3 : c.due < e := by omega
        by_cases a4 : c.due + c.de < d
        · have a5 : c.due + c.de < e := by omega
          simp [b1, a2, a3, a4, a5]
        · by_cases a5 : c.due + c.de < e <;> simp [b1, a2, a3, a4, a5]
      · by_cases a3 : c.due < e
        · by_cases a5 : c.due + c.de < e <;> simp [b1, a2, a3, a5]
        · simp [b1, a2, a3]
    · by_cases d1 : c.st = 3
      · by_cases a2 : c.due < d
        · have a3 : c.due < e := by omega
          simp [d1, a2, a3]
        · by_cases a3 : c.due < e <;> simp [d1, a2, a3]
      · simp [a1, b1, d1]
theorem good_u8 {c : Cs} (h : goodC c) : u8B c.st = true := by
  simp only [goodC] at h
  simp only [u8B, Bool.and_eq_true, decide_eq_true_eq]
  omega
theorem at_over {c : Cs} {e : Int} (h2 : atE c e = 0) : liveB (atC c e).st = false ∨ e ≤ IntKind.i64.wrap (c.due + c.de) := by
  obtain ⟨hg, hg2, _, _, _, _, _, f7, k1, k2, k3⟩ := at_good h2
  have e1 : atC c e = stepC c e := if_pos h2
  simp only [goodC, termsP] at hg
  rw [wrap64 (by omega) (by omega)]
  by_cases h : e ≤ c.due + c.de
  · exact .inr h
  · left
    rw [liveB, decide_eq_false_iff_not, e1]
    unfold liveP stepC
    repeat' split
    all_goals (dsimp only; omega)
theorem law_days (c : Cs) (d e : Int) (h : u8B c.st = true) : evF C20 6 4 [csD c, .v (i64 d), .v (i64 e)] = some [.v (.bool true)] := by
  rw [tdays]
  simp only [h, br_true]
  cases h1 : (chkE c != 0)
  · cases h2 : (atE c d != 0)
    · cases h3 : (atE c e != 0)
      · by_cases h4 : e < d
        · rw [decide_eq_true h4]; rfl
        · have h2' : atE c d = 0 := by simpa using h2
          have h3' : atE c e = 0 := by simpa using h3
          obtain ⟨q1, q2⟩ := at_at h2' h3' (by omega)
          rw [decide_eq_false h4, q1, q2, good_u8 (at_good h2').2.1]
          simp only [br_false, br_true, beq_self_eq_true, Bool.and_self, Bool.not_true, bne_self_eq_false]
          rcases at_over h3' with h5 | h5
          · rw [h5]; rfl
          · rw [decide_eq_true h5]
            cases liveB (atC c e).st <;> rfl
      · rfl
    · rfl
  · rfl

theorem own : ownKnob Try.prog.godebug = none := by kernel_rfl
theorem laidOut : laidOutB Try.prog = true := by kernel_rfl
set_option maxRecDepth 100000 in
theorem docketDays_lifted (os : Os) (started : os.Started) (H : Type) (enc : TypeId × Value → H) :
    ReturnsInHanded {} Try.checked os 4 .any (Rows.docketDaysSpec.pre6 enc Try.prog Try.f4 Rows.docketDaysRow.domain false) (Rows.docketDaysSpec.post enc Try.prog Try.f4 false true false false) :=
  lifted_true (C := C20) C20_ok (K := Try.checked) rfl (f := 4) (d := 5) (e := 6) (fn := Try.f4) (t4 := 4) (sh := [(true, [.int .i64, .int .i64, .int .i64, .int .i64, .int .i64, .int .u8, .int .i64, .int .i64, .int .i64, .int .i64, .int .i64, .int .i64]), (false, [.int .i64]), (false, [.int .i64])]) own (by kernel_rfl) Try.func4 laidOut (by kernel_rfl) (by kernel_rfl) Try.underlying4 rfl
    (fun H ds h => by
      have h : ds.length = 3 := h
      match ds, h with
      | [d1, d2, d3], _ => rfl)
    (by kernel_rfl)
    (fun Ds h => by
      cases h with
      | agg a h =>
      cases a with
      | cons c a =>
      cases c with
      | int w0_0 =>
      cases a with
      | cons c a =>
      cases c with
      | int w0_1 =>
      cases a with
      | cons c a =>
      cases c with
      | int w0_2 =>
      cases a with
      | cons c a =>
      cases c with
      | int w0_3 =>
      cases a with
      | cons c a =>
      cases c with
      | int w0_4 =>
      cases a with
      | cons c a =>
      cases c with
      | int w0_5 =>
      cases a with
      | cons c a =>
      cases c with
      | int w0_6 =>
      cases a with
      | cons c a =>
      cases c with
      | int w0_7 =>
      cases a with
      | cons c a =>
      cases c with
      | int w0_8 =>
      cases a with
      | cons c a =>
      cases c with
      | int w0_9 =>
      cases a with
      | cons c a =>
      cases c with
      | int w0_10 =>
      cases a with
      | cons c a =>
      cases c with
      | int w0_11 =>
      cases a
      cases h with
      | one c h =>
      cases c with
      | int w1_0 =>
      cases h with
      | one c h =>
      cases c with
      | int w2_0 =>
      cases h
      exact law_days ⟨_, _, _, _, _, _, _, _, _, _, _, _⟩ _ _ (wf8 w0_5))
    started (ChangeSpec.witness6 (enc := enc) (C := Try.checked) false ⟨#[], #[.agg #[.int .i64 0, .int .i64 0, .int .i64 0, .int .i64 0, .int .i64 0, .int .u8 0, .int .i64 0, .int .i64 0, .int .i64 0, .int .i64 0, .int .i64 0, .int .i64 0], .int .i64 0, .int .i64 0], []⟩ 8 (by kernel_rfl) (by kernel_rfl) (by kernel_rfl) (by kernel_rfl))

theorem docketDays_over : Rows.docketDaysRow.holds Try.pinned (OpenSpec.ofChange Rows.docketDaysSpec) :=
  OpenClaim.holds_of_wide 4 Try.f4 rfl rfl rfl rfl rfl rfl rfl ⟨rfl, rfl, rfl, rfl, rfl⟩ rfl rfl rfl rfl rfl (by kernel_rfl) Try.func4 (by kernel_rfl)
    (of_decide_eq_true (by kernel_rfl)) (by unfold Func.isWrapper; first | (rw [if_pos (by decide +kernel)]; kernel_rfl) | (rw [if_neg (by decide +kernel)]; exact ⟨rfl, rfl⟩))
    (fun os started H enc _ => docketDays_lifted os started H enc)

theorem docketDays_said : Rows.DocketDaysSaid := docketDays_over
#print axioms docketDays_said
end Go.Proofs.Ytiiaimghkmlhlaa

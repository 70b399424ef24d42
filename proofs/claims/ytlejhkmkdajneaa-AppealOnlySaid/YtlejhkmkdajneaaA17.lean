/- The law AppealOnly: whatever comes in, its function gives true. No conditions. -/
import Derived.Test.YtlejhkmkdajneaaA16
import Derived.Test.YtlejhkmkdajneaaA14
namespace Go.Proofs.Ytlejhkmkdajneaa
open Go.Ev Go.ChangeShapes Go.WideShapes Go.ChangeAt Go.RowKit
set_option linter.all false
theorem ap_err {m : Ms} {x : Stp} (hg : goodM m) (hx : stpP x) (ha : atE m x.day = 0) (hal : allP x.kind (atC m x.day)) (h : apE m x ≠ 0) : apE m x = 14 ∨ apE m x = 16 := by
  have := ap_go hg hx ha
  rw [if_neg (by simpa using hal)] at this
  split at this
  · exact .inl this
  · split at this
    · exact .inr this
    · exact absurd this h
theorem beqB {a b : Int} {p : Prop} [Decidable p] (h : a = b ↔ p) : (a == b) = decide p := by
  rw [Bool.eq_iff_iff]
  simp only [beq_iff_eq, decide_eq_true_eq]
  exact h
set_option maxHeartbeats 4000000 in
theorem law_only (m : Ms) (x : Stp) : evF C13 6 9 [msD m, stD x] = some [.v (.bool true)] := by
  rw [tonly]
  by_cases hg : goodM m
  · rw [chk0 hg]
    have hbig : decide ((alR m x.day).n ≤ 1000) = true := decide_eq_true (by have := al_n m x.day; omega)
    rw [hbig]
    simp only [bne_self_eq_false, br_false, br_true]
    by_cases h2 : apE m x = 0
    · have hgood := ap_good h2
      obtain ⟨_, hx, ha, hal, _, h6, e⟩ := ap_zero h2
      obtain ⟨_, hq, f1, f2, f3, f4, f5, f6, f7, f8⟩ := at_good ha
      obtain ⟨k1, k2, k3, k4⟩ := at_keep ha
      have hhas : orR (alR m x.day) x.kind (alR m x.day).n 0 false = true := (has_al ha x.kind).trans (decide_eq_true hal)
      rw [hhas, h2, ha, chk0 hgood, show stpB x = true from decide_eq_true hx]
      have hgood' := hgood
      simp only [goodM] at hgood'
      rw [show IntKind.i64.wrap ((apC m x).lv - 1) = (apC m x).lv - 1 from wrap64 (by omega) (by omega), show IntKind.i64.wrap (x.day + (apC m x).ds) = x.day + (apC m x).ds from wrap64 (by omega) (by omega)]
      simp only [bne_self_eq_false, br_true, br_false, Bool.not_true]
      clear hgood' hgood hhas hbig
      rw [e]
      clear e h2 ha hg
      generalize atC m x.day = q at *
      unfold stpP at hx
      unfold allP at hal
      simp only [goodM] at hq
      obtain ⟨g1, g2, g3, g4, g5, g6, g7, g8, g9, g10, _, _⟩ := hq
      have hk : (x.kind = 1 ∨ x.kind = 4) ∨ x.kind = 2 ∨ x.kind = 3 ∨ x.kind = 5 ∨ x.kind = 6 := by omega
      rcases hk with hk | hk | hk | hk | hk
      · rw [doC_a _ _ hk]
        unfold dec
        (try dsimp only)
        by_cases hl : q.lev = q.lv - 1
        · rw [if_pos hl]
          (try dsimp only)
          rw [show ((3 : Int) == 3) = true from rfl, show (q.lev == q.lv - 1) = true by simpa using hl]
          rcases hk with hk | hk <;> rw [hk]
          · repeat' refine br_split (fun h => ?_) (fun h => ?_)
            all_goals first | rfl | contradiction | exact absurd (beq_self_eq_true _) h | (exfalso; (try simp only [not_tr, decide_eq_true_eq, Bool.and_eq_true, Bool.or_eq_true, beq_iff_eq, bne_iff_ne, ne_eq, and_true, true_and, Bool.not_eq_true', beq_eq_false_iff_ne, decide_eq_false_iff_not] at *) <;> omega) | (refine congrArg (fun b => some [D.v (.bool b)]) ?_; first | exact beq_self_eq_true _ | ((try simp only [not_tr, decide_eq_true_eq, Bool.and_eq_true, Bool.or_eq_true, beq_iff_eq, bne_iff_ne, ne_eq, and_true, true_and, Bool.not_eq_true', beq_eq_false_iff_ne, decide_eq_false_iff_not] at *) <;> omega)) | fail "LEAF"
          · repeat' refine br_split (fun h => ?_) (fun h => ?_)
            all_goals first | rfl | contradiction | exact absurd (beq_self_eq_true _) h | (exfalso; (try simp only [not_tr, decide_eq_true_eq, Bool.and_eq_true, Bool.or_eq_true, beq_iff_eq, bne_iff_ne, ne_eq, and_true, true_and, Bool.not_eq_true', beq_eq_false_iff_ne, decide_eq_false_iff_not] at *) <;> omega) | (refine congrArg (fun b => some [D.v (.bool b)]) ?_; first | exact beq_self_eq_true _ | ((try simp only [not_tr, decide_eq_true_eq, Bool.and_eq_true, Bool.or_eq_true, beq_iff_eq, bne_iff_ne, ne_eq, and_true, true_and, Bool.not_eq_true', beq_eq_false_iff_ne, decide_eq_false_iff_not] at *) <;> omega)) | fail "LEAF"
        · rw [if_neg hl]
          (try dsimp only)
          rw [show ((2 : Int) == 3) = false from rfl, show (q.lev == q.lv - 1) = false by simpa using hl]
          rcases hk with hk | hk <;> rw [hk]
          · repeat' refine br_split (fun h => ?_) (fun h => ?_)
            all_goals first | rfl | contradiction | exact absurd (beq_self_eq_true _) h | (exfalso; (try simp only [not_tr, decide_eq_true_eq, Bool.and_eq_true, Bool.or_eq_true, beq_iff_eq, bne_iff_ne, ne_eq, and_true, true_and, Bool.not_eq_true', beq_eq_false_iff_ne, decide_eq_false_iff_not] at *) <;> omega) | (refine congrArg (fun b => some [D.v (.bool b)]) ?_; first | exact beq_self_eq_true _ | ((try simp only [not_tr, decide_eq_true_eq, Bool.and_eq_true, Bool.or_eq_true, beq_iff_eq, bne_iff_ne, ne_eq, and_true, true_and, Bool.not_eq_true', beq_eq_false_iff_ne, decide_eq_false_iff_not] at *) <;> omega)) | fail "LEAF"
          · repeat' refine br_split (fun h => ?_) (fun h => ?_)
            all_goals first | rfl | contradiction | exact absurd (beq_self_eq_true _) h | (exfalso; (try simp only [not_tr, decide_eq_true_eq, Bool.and_eq_true, Bool.or_eq_true, beq_iff_eq, bne_iff_ne, ne_eq, and_true, true_and, Bool.not_eq_true', beq_eq_false_iff_ne, decide_eq_false_iff_not] at *) <;> omega) | (refine congrArg (fun b => some [D.v (.bool b)]) ?_; first | exact beq_self_eq_true _ | ((try simp only [not_tr, decide_eq_true_eq, Bool.and_eq_true, Bool.or_eq_true, beq_iff_eq, bne_iff_ne, ne_eq, and_true, true_and, Bool.not_eq_true', beq_eq_false_iff_ne, decide_eq_false_iff_not] at *) <;> omega)) | fail "LEAF"
      · rw [doC_2 _ _ hk, hk]
        (try dsimp only)
        repeat' refine br_split (fun h => ?_) (fun h => ?_)
        all_goals first | rfl | contradiction | exact absurd (beq_self_eq_true _) h | (exfalso; (try simp only [not_tr, decide_eq_true_eq, Bool.and_eq_true, Bool.or_eq_true, beq_iff_eq, bne_iff_ne, ne_eq, and_true, true_and, Bool.not_eq_true', beq_eq_false_iff_ne, decide_eq_false_iff_not] at *) <;> omega) | (refine congrArg (fun b => some [D.v (.bool b)]) ?_; first | exact beq_self_eq_true _ | ((try simp only [not_tr, decide_eq_true_eq, Bool.and_eq_true, Bool.or_eq_true, beq_iff_eq, bne_iff_ne, ne_eq, and_true, true_and, Bool.not_eq_true', beq_eq_false_iff_ne, decide_eq_false_iff_not] at *) <;> omega)) | fail "LEAF"
      · rw [doC_3 _ _ hk]
        unfold dec
        (try dsimp only)
        by_cases hl : q.lev = q.lv - 1
        · rw [if_pos hl]
          (try dsimp only)
          rw [show ((3 : Int) == 3) = true from rfl, show (q.lev == q.lv - 1) = true by simpa using hl, hk]
          repeat' refine br_split (fun h => ?_) (fun h => ?_)
          all_goals first | rfl | contradiction | exact absurd (beq_self_eq_true _) h | (exfalso; (try simp only [not_tr, decide_eq_true_eq, Bool.and_eq_true, Bool.or_eq_true, beq_iff_eq, bne_iff_ne, ne_eq, and_true, true_and, Bool.not_eq_true', beq_eq_false_iff_ne, decide_eq_false_iff_not] at *) <;> omega) | (refine congrArg (fun b => some [D.v (.bool b)]) ?_; first | exact beq_self_eq_true _ | ((try simp only [not_tr, decide_eq_true_eq, Bool.and_eq_true, Bool.or_eq_true, beq_iff_eq, bne_iff_ne, ne_eq, and_true, true_and, Bool.not_eq_true', beq_eq_false_iff_ne, decide_eq_false_iff_not] at *) <;> omega)) | fail "LEAF"
        · rw [if_neg hl]
          (try dsimp only)
          rw [show ((2 : Int) == 3) = false from rfl, show (q.lev == q.lv - 1) = false by simpa using hl, hk]
          repeat' refine br_split (fun h => ?_) (fun h => ?_)
          all_goals first | rfl | contradiction | exact absurd (beq_self_eq_true _) h | (exfalso; (try simp only [not_tr, decide_eq_true_eq, Bool.and_eq_true, Bool.or_eq_true, beq_iff_eq, bne_iff_ne, ne_eq, and_true, true_and, Bool.not_eq_true', beq_eq_false_iff_ne, decide_eq_false_iff_not] at *) <;> omega) | (refine congrArg (fun b => some [D.v (.bool b)]) ?_; first | exact beq_self_eq_true _ | ((try simp only [not_tr, decide_eq_true_eq, Bool.and_eq_true, Bool.or_eq_true, beq_iff_eq, bne_iff_ne, ne_eq, and_true, true_and, Bool.not_eq_true', beq_eq_false_iff_ne, decide_eq_false_iff_not] at *) <;> omega)) | fail "LEAF"
      · rw [doC_5 _ _ hk, hk]
        (try dsimp only)
        repeat' refine br_split (fun h => ?_) (fun h => ?_)
        all_goals first | rfl | contradiction | exact absurd (beq_self_eq_true _) h | (exfalso; (try simp only [not_tr, decide_eq_true_eq, Bool.and_eq_true, Bool.or_eq_true, beq_iff_eq, bne_iff_ne, ne_eq, and_true, true_and, Bool.not_eq_true', beq_eq_false_iff_ne, decide_eq_false_iff_not] at *) <;> omega) | (refine congrArg (fun b => some [D.v (.bool b)]) ?_; first | exact beq_self_eq_true _ | ((try simp only [not_tr, decide_eq_true_eq, Bool.and_eq_true, Bool.or_eq_true, beq_iff_eq, bne_iff_ne, ne_eq, and_true, true_and, Bool.not_eq_true', beq_eq_false_iff_ne, decide_eq_false_iff_not] at *) <;> omega)) | fail "LEAF"
      · rw [doC_6 _ _ hk, hk]
        repeat' split
        all_goals (try dsimp only)
        all_goals repeat' refine br_split (fun h => ?_) (fun h => ?_)
        all_goals first | rfl | contradiction | exact absurd (beq_self_eq_true _) h | (exfalso; (try simp only [not_tr, decide_eq_true_eq, Bool.and_eq_true, Bool.or_eq_true, beq_iff_eq, bne_iff_ne, ne_eq, and_true, true_and, Bool.not_eq_true', beq_eq_false_iff_ne, decide_eq_false_iff_not] at *) <;> omega) | (refine congrArg (fun b => some [D.v (.bool b)]) ?_; first | exact beq_self_eq_true _ | ((try simp only [not_tr, decide_eq_true_eq, Bool.and_eq_true, Bool.or_eq_true, beq_iff_eq, bne_iff_ne, ne_eq, and_true, true_and, Bool.not_eq_true', beq_eq_false_iff_ne, decide_eq_false_iff_not] at *) <;> omega)) | fail "LEAF"
    · rw [show (apE m x != 0) = true by simpa using h2, show apC m x = zeroM from if_neg h2]
      cases hx : stpB x
      · rfl
      · cases ha : (atE m x.day == 0)
        · rfl
        · have ha' : atE m x.day = 0 := by simpa using ha
          have hh := has_al ha' x.kind
          rw [hh]
          cases hb : allB x.kind (atC m x.day)
          · rfl
          · rcases ap_err hg (of_decide_eq_true hx) ha' (of_decide_eq_true hb) h2 with h | h
            · rw [h]; rfl
            · rw [h]; rfl
  · rw [chk8 hg]
    rfl

set_option maxRecDepth 100000 in
theorem appealOnly_lifted (os : Os) (started : os.Started) (H : Type) (enc : TypeId × Value → H) :
    ReturnsInHanded {} Try.checked os 9 .any (Rows.appealOnlySpec.pre6 enc Try.prog Try.f9 Rows.appealOnlyRow.domain false) (Rows.appealOnlySpec.post enc Try.prog Try.f9 false true false false) :=
  lifted_true (C := C13) C13_ok (K := Try.checked) rfl (f := 9) (d := 5) (e := 6) (fn := Try.f9) (t4 := 4) (sh := [(true, [.int .i64, .int .i64, .int .i64, .int .i64, .int .i64, .int .u8, .int .i64, .int .i64, .int .i64, .bool, .bool, .int .i64]), (true, [.int .u8, .int .i64, .int .i64, .int .i64])]) own (by kernel_rfl) Try.func9 laidOut (by kernel_rfl) (by kernel_rfl) Try.underlying4 rfl
    (fun H ds h => by
      have h : ds.length = 2 := h
      match ds, h with
      | [d1, d2], _ => rfl)
    (by kernel_rfl)
    (fun Ds h => by
      cases h with
      | agg a h =>
      cases a with
      | cons c a =>
      cases c with
      | int w0_0 =>
      cases a with
      | cons c a =>
      cases c with
      | int w0_1 =>
      cases a with
      | cons c a =>
      cases c with
      | int w0_2 =>
      cases a with
      | cons c a =>
      cases c with
      | int w0_3 =>
      cases a with
      | cons c a =>
      cases c with
      | int w0_4 =>
      cases a with
      | cons c a =>
      cases c with
      | int w0_5 =>
      cases a with
      | cons c a =>
      cases c with
      | int w0_6 =>
      cases a with
      | cons c a =>
      cases c with
      | int w0_7 =>
      cases a with
      | cons c a =>
      cases c with
      | int w0_8 =>
      cases a with
      | cons c a =>
      cases c
      cases a with
      | cons c a =>
      cases c
      cases a with
      | cons c a =>
      cases c with
      | int w0_11 =>
      cases a
      cases h with
      | agg a h =>
      cases a with
      | cons c a =>
      cases c with
      | int w1_0 =>
      cases a with
      | cons c a =>
      cases c with
      | int w1_1 =>
      cases a with
      | cons c a =>
      cases c with
      | int w1_2 =>
      cases a with
      | cons c a =>
      cases c with
      | int w1_3 =>
      cases a
      cases h
      exact law_only ⟨_, _, _, _, _, _, _, _, _, _, _, _⟩ ⟨_, _, _, _⟩)
    started (ChangeSpec.witness6 (enc := enc) (C := Try.checked) false ⟨#[], #[.agg #[.int .i64 0, .int .i64 0, .int .i64 0, .int .i64 0, .int .i64 0, .int .u8 0, .int .i64 0, .int .i64 0, .int .i64 0, .bool false, .bool false, .int .i64 0], .agg #[.int .u8 0, .int .i64 0, .int .i64 0, .int .i64 0]], []⟩ 8 (by kernel_rfl) (by kernel_rfl) (by kernel_rfl) (by kernel_rfl))

theorem appealOnly_over : Rows.appealOnlyRow.holds Try.pinned (OpenSpec.ofChange Rows.appealOnlySpec) :=
  OpenClaim.holds_of_wide 9 Try.f9 rfl rfl rfl rfl rfl rfl rfl ⟨rfl, rfl, rfl, rfl, rfl⟩ rfl rfl rfl rfl rfl (by kernel_rfl) Try.func9 (by kernel_rfl)
    (of_decide_eq_true (by kernel_rfl)) (by unfold Func.isWrapper; first | (rw [if_pos (by decide +kernel)]; kernel_rfl) | (rw [if_neg (by decide +kernel)]; exact ⟨rfl, rfl⟩))
    (fun os started H enc _ => appealOnly_lifted os started H enc)

theorem appealOnly_said : Rows.AppealOnlySaid := appealOnly_over
#print axioms appealOnly_said
end Go.Proofs.Ytlejhkmkdajneaa

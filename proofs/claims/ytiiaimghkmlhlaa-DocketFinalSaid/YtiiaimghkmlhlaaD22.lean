/- The laws DocketEvents, DocketOnly and DocketFinal: what their functions come to. No conditions. -/
import Derived.Test.YtiiaimghkmlhlaaD14
namespace Go.Proofs.Ytiiaimghkmlhlaa
open Go.Ev
set_option linter.all false
theorem law_events (c : Cs) (x : Evt) (r : Row) (h : u8B c.st = true) : evF C30 6 5 [csD c, evD x, .slice ksV r] = some [.v (.bool true)] := by
  rw [tevents]
  simp only [h, br_true, beq_self_eq_true, Bool.and_self, Bool.and_true]
  cases (decide ((r.n : Int) > 120)) <;> rfl
theorem ap_err {c : Cs} {x : Evt} (hg : goodC c) (hx : evtP x) (ha : atE c x.day = 0) (hal : allP x.kind (atC c x.day).st) (h : apE c x ≠ 0) : apE c x = 4 ∨ apE c x = 16 := by
  have := ap_go hg hx ha
  rw [if_neg (by simpa using hal)] at this
  split at this
  · exact .inl this
  · split at this
    · exact .inr this
    · exact absurd this h
set_option maxHeartbeats 4000000 in
theorem law_only (c : Cs) (x : Evt) (hu : u8B c.st = true) : evF C31 6 6 [csD c, evD x] = some [.v (.bool true)] := by
  rw [tonly]
  simp only [hu, br_true]
  by_cases hg : goodC c
  · rw [chk0 hg]
    simp only [bne_self_eq_false, br_false]
    have hbig : decide ((winOf (alR c x.day) 0 (alR c x.day).n).n ≤ big) = true := decide_eq_true (show (alR c x.day).n ≤ 9223372036854775807 by have := al_n c x.day; omega)
    rw [hbig]
    by_cases h2 : apE c x = 0
    · obtain ⟨_, hx, ha, hal, _, h6, e⟩ := ap_zero h2
      obtain ⟨_, hq, f1, f2, f3, f4, f5, f6, f7, f8, f9⟩ := at_good ha
      have hgood := ap_good h2
      have hhas : hasR (winOf (alR c x.day) 0 (alR c x.day).n) x.kind = true := (has_al ha x.kind).trans (decide_eq_true hal)
      rw [hhas, h2, ha, chk0 hgood, gd_u8 hgood, show evtB x = true from decide_eq_true hx]
      simp only [bne_self_eq_false, br_true, br_false, Bool.not_true]
      rw [e]
      generalize atC c x.day = q at *
      clear hhas hbig hgood e h2 ha hg
      simp only [evtP] at hx
      simp only [goodC, termsP] at hq
      simp only [allP, liveP] at hal
      obtain ⟨⟨g1, g2, g3, g4⟩, g5, g6, g7, g8, g9, g10, g11, _, _, _, g15, _⟩ := hq
      have hp : 0 ≤ x.party ∧ x.party ≤ 1 := by omega
      have hds : 0 ≤ x.days ∧ x.days ≤ 60 := by omega
      have hct : x.cents ≤ c.cl := by omega
      rw [show IntKind.i64.wrap (x.day + c.ev) = x.day + c.ev from wrap64 (by omega) (by omega), show IntKind.i64.wrap (x.day + c.de) = x.day + c.de from wrap64 (by omega) (by omega),
        show IntKind.i64.wrap (q.due + x.days) = q.due + x.days from wrap64 (by omega) (by omega), show IntKind.i64.wrap (q.xd + 1) = q.xd + 1 from wrap64 (by omega) (by omega),
        show IntKind.i64.wrap (q.e0 + 1) = q.e0 + 1 from wrap64 (by omega) (by omega), show IntKind.i64.wrap (q.e1 + 1) = q.e1 + 1 from wrap64 (by omega) (by omega),
        show IntKind.i64.wrap (1 - x.party) = 1 - x.party from wrap64 (by omega) (by omega)]
      have hk : x.kind = 1 ∨ x.kind = 2 ∨ x.kind = 3 ∨ x.kind = 4 ∨ x.kind = 5 ∨ x.kind = 6 ∨ x.kind = 7 := by omega
      unfold doC
      rcases hk with hk | hk | hk | hk | hk | hk | hk
      · rw [if_pos hk, hk]
        dsimp only
        repeat' refine br_split (fun h => ?_) (fun h => ?_)
        all_goals first | rfl | contradiction | exact absurd (beq_self_eq_true _) h | (exfalso; (try simp only [not_tr, decide_eq_true_eq, Bool.and_eq_true, Bool.or_eq_true, beq_iff_eq, bne_iff_ne, ne_eq, and_true, true_and, Bool.not_eq_true', beq_eq_false_iff_ne, decide_eq_false_iff_not] at *) <;> omega) | (refine congrArg (fun b => some [D.v (.bool b)]) ?_; first | exact beq_self_eq_true _ | ((try simp only [not_tr, decide_eq_true_eq, Bool.and_eq_true, Bool.or_eq_true, beq_iff_eq, bne_iff_ne, ne_eq, and_true, true_and, Bool.not_eq_true', beq_eq_false_iff_ne, decide_eq_false_iff_not] at *) <;> omega)) | fail "LEAF"
      · rw [if_neg (by omega), if_pos hk, hk]
        by_cases hp0 : x.party = 0
        · rw [if_pos hp0, hp0]
          dsimp only
          repeat' refine br_split (fun h => ?_) (fun h => ?_)
          all_goals first | rfl | contradiction | exact absurd (beq_self_eq_true _) h | (exfalso; (try simp only [not_tr, decide_eq_true_eq, Bool.and_eq_true, Bool.or_eq_true, beq_iff_eq, bne_iff_ne, ne_eq, and_true, true_and, Bool.not_eq_true', beq_eq_false_iff_ne, decide_eq_false_iff_not] at *) <;> omega) | (refine congrArg (fun b => some [D.v (.bool b)]) ?_; first | exact beq_self_eq_true _ | ((try simp only [not_tr, decide_eq_true_eq, Bool.and_eq_true, Bool.or_eq_true, beq_iff_eq, bne_iff_ne, ne_eq, and_true, true_and, Bool.not_eq_true', beq_eq_false_iff_ne, decide_eq_false_iff_not] at *) <;> omega)) | fail "LEAF"
        · rw [if_neg hp0, show x.party = 1 by omega]
          dsimp only
          repeat' refine br_split (fun h => ?_) (fun h => ?_)
          all_goals first | rfl | contradiction | exact absurd (beq_self_eq_true _) h | (exfalso; (try simp only [not_tr, decide_eq_true_eq, Bool.and_eq_true, Bool.or_eq_true, beq_iff_eq, bne_iff_ne, ne_eq, and_true, true_and, Bool.not_eq_true', beq_eq_false_iff_ne, decide_eq_false_iff_not] at *) <;> omega) | (refine congrArg (fun b => some [D.v (.bool b)]) ?_; first | exact beq_self_eq_true _ | ((try simp only [not_tr, decide_eq_true_eq, Bool.and_eq_true, Bool.or_eq_true, beq_iff_eq, bne_iff_ne, ne_eq, and_true, true_and, Bool.not_eq_true', beq_eq_false_iff_ne, decide_eq_false_iff_not] at *) <;> omega)) | fail "LEAF"
      · rw [if_neg (by omega), if_neg (by omega), if_pos hk, hk]
        dsimp only
        repeat' refine br_split (fun h => ?_) (fun h => ?_)
        all_goals first | rfl | contradiction | exact absurd (beq_self_eq_true _) h | (exfalso; (try simp only [not_tr, decide_eq_true_eq, Bool.and_eq_true, Bool.or_eq_true, beq_iff_eq, bne_iff_ne, ne_eq, and_true, true_and, Bool.not_eq_true', beq_eq_false_iff_ne, decide_eq_false_iff_not] at *) <;> omega) | (refine congrArg (fun b => some [D.v (.bool b)]) ?_; first | exact beq_self_eq_true _ | ((try simp only [not_tr, decide_eq_true_eq, Bool.and_eq_true, Bool.or_eq_true, beq_iff_eq, bne_iff_ne, ne_eq, and_true, true_and, Bool.not_eq_true', beq_eq_false_iff_ne, decide_eq_false_iff_not] at *) <;> omega)) | fail "LEAF"
      · rw [if_neg (by omega), if_neg (by omega), if_neg (by omega), if_pos hk, hk]
        dsimp only
        repeat' refine br_split (fun h => ?_) (fun h => ?_)
        all_goals first | rfl | contradiction | exact absurd (beq_self_eq_true _) h | (exfalso; (try simp only [not_tr, decide_eq_true_eq, Bool.and_eq_true, Bool.or_eq_true, beq_iff_eq, bne_iff_ne, ne_eq, and_true, true_and, Bool.not_eq_true', beq_eq_false_iff_ne, decide_eq_false_iff_not] at *) <;> omega) | (refine congrArg (fun b => some [D.v (.bool b)]) ?_; first | exact beq_self_eq_true _ | ((try simp only [not_tr, decide_eq_true_eq, Bool.and_eq_true, Bool.or_eq_true, beq_iff_eq, bne_iff_ne, ne_eq, and_true, true_and, Bool.not_eq_true', beq_eq_false_iff_ne, decide_eq_false_iff_not] at *) <;> omega)) | fail "LEAF"
      · rw [if_neg (by omega), if_neg (by omega), if_neg (by omega), if_neg (by omega), if_pos hk, hk]
        dsimp only
        repeat' refine br_split (fun h => ?_) (fun h => ?_)
        all_goals first | rfl | contradiction | exact absurd (beq_self_eq_true _) h | (exfalso; (try simp only [not_tr, decide_eq_true_eq, Bool.and_eq_true, Bool.or_eq_true, beq_iff_eq, bne_iff_ne, ne_eq, and_true, true_and, Bool.not_eq_true', beq_eq_false_iff_ne, decide_eq_false_iff_not] at *) <;> omega) | (refine congrArg (fun b => some [D.v (.bool b)]) ?_; first | exact beq_self_eq_true _ | ((try simp only [not_tr, decide_eq_true_eq, Bool.and_eq_true, Bool.or_eq_true, beq_iff_eq, bne_iff_ne, ne_eq, and_true, true_and, Bool.not_eq_true', beq_eq_false_iff_ne, decide_eq_false_iff_not] at *) <;> omega)) | fail "LEAF"
      · rw [if_neg (by omega), if_neg (by omega), if_neg (by omega), if_neg (by omega), if_neg (by omega), if_pos hk, hk]
        dsimp only
        repeat' refine br_split (fun h => ?_) (fun h => ?_)
        all_goals first | rfl | contradiction | exact absurd (beq_self_eq_true _) h | (exfalso; (try simp only [not_tr, decide_eq_true_eq, Bool.and_eq_true, Bool.or_eq_true, beq_iff_eq, bne_iff_ne, ne_eq, and_true, true_and, Bool.not_eq_true', beq_eq_false_iff_ne, decide_eq_false_iff_not] at *) <;> omega) | (refine congrArg (fun b => some [D.v (.bool b)]) ?_; first | exact beq_self_eq_true _ | ((try simp only [not_tr, decide_eq_true_eq, Bool.and_eq_true, Bool.or_eq_true, beq_iff_eq, bne_iff_ne, ne_eq, and_true, true_and, Bool.not_eq_true', beq_eq_false_iff_ne, decide_eq_false_iff_not] at *) <;> omega)) | fail "LEAF"
      · rw [if_neg (by omega), if_neg (by omega), if_neg (by omega), if_neg (by omega), if_neg (by omega), if_neg (by omega), hk]
        dsimp only
        repeat' refine br_split (fun h => ?_) (fun h => ?_)
        all_goals first | rfl | contradiction | exact absurd (beq_self_eq_true _) h | (exfalso; (try simp only [not_tr, decide_eq_true_eq, Bool.and_eq_true, Bool.or_eq_true, beq_iff_eq, bne_iff_ne, ne_eq, and_true, true_and, Bool.not_eq_true', beq_eq_false_iff_ne, decide_eq_false_iff_not] at *) <;> omega) | (refine congrArg (fun b => some [D.v (.bool b)]) ?_; first | exact beq_self_eq_true _ | ((try simp only [not_tr, decide_eq_true_eq, Bool.and_eq_true, Bool.or_eq_true, beq_iff_eq, bne_iff_ne, ne_eq, and_true, true_and, Bool.not_eq_true', beq_eq_false_iff_ne, decide_eq_false_iff_not] at *) <;> omega)) | fail "LEAF"
    · rw [show (apE c x != 0) = true by simpa using h2, show apC c x = zeroC from if_neg h2]
      cases hx : evtB x
      · rfl
      · cases ha : (atE c x.day == 0)
        · rfl
        · have ha' : atE c x.day = 0 := by simpa using ha
          have hh : hasR (winOf (alR c x.day) 0 (alR c x.day).n) x.kind = allB x.kind (atC c x.day).st := has_al ha' x.kind
          rw [hh]
          cases hb : allB x.kind (atC c x.day).st
          · rfl
          · rcases ap_err hg (of_decide_eq_true hx) ha' (of_decide_eq_true hb) h2 with h | h
            · rw [h]; rfl
            · rw [h]; rfl
  · rw [chk8 hg]
    rfl
theorem al_dead {c : Cs} {d : Int} (h : liveB (atC c d).st = false) : (alR c d).n = 0 := by
  have h := of_decide_eq_false h
  unfold liveP at h
  unfold alR
  split
  · unfold kR
    rw [if_neg (by omega), if_neg (by omega), if_neg (by omega)]
    rfl
  · rfl
set_option maxHeartbeats 4000000 in
theorem law_final (c : Cs) (d : Int) (x : Evt) (hu : u8B c.st = true) : evF C31 6 7 [csD c, .v (i64 d), evD x] = some [.v (.bool true)] := by
  rw [tfinal]
  simp only [hu, br_true]
  by_cases hg : goodC c
  · rw [chk0 hg]
    simp only [bne_self_eq_false, br_false]
    by_cases ha : atE c d = 0
    · obtain ⟨_, hq, f1, f2, f3, f4, f5, f6, f7, f8, f9⟩ := at_good ha
      rw [ha, gd_u8 hq, chk0 hq, f6]
      simp only [bne_self_eq_false, br_false, br_true]
      cases hl : liveB (atC c d).st
      · -- final
        have hd0 : atE (atC c d) d = 0 := by
          unfold atE
          rw [if_neg (by simpa using hq), if_neg (by omega), if_neg (by omega)]
        have hst : (atC (atC c d) d).st = (atC c d).st := by
          rw [show atC (atC c d) d = stepC (atC c d) d from if_pos hd0]
          have h := of_decide_eq_false hl
          unfold liveP at h
          unfold stepC
          rw [if_neg (by omega), if_neg (by omega), if_neg (by omega)]
        have hn : (alR (atC c d) d).n = 0 := al_dead (by rw [hst]; exact hl)
        have hap : apE (atC c d) x ≠ 0 := by
          intro h0
          obtain ⟨_, _, k1, k2, _⟩ := ap_zero h0
          have h := of_decide_eq_false hl
          have k3 : (atC (atC c d) x.day).st = (atC c d).st := by
            rw [show atC (atC c d) x.day = stepC (atC c d) x.day from if_pos k1]
            unfold liveP at h
            unfold stepC
            rw [if_neg (by omega), if_neg (by omega), if_neg (by omega)]
          rw [k3] at k2
          unfold allP at k2
          unfold liveP at h k2
          omega
        rw [hd0, hn, show (apE (atC c d) x == 0) = false by simpa using hap]
        cases hlc : liveB c.st
        · have h := of_decide_eq_false hlc
          rw [show atC c d = stepC c d from if_pos ha]
          unfold liveP at h
          unfold stepC
          rw [if_neg (by omega), if_neg (by omega), if_neg (by omega)]
          simp only [beq_self_eq_true, Bool.and_self, Bool.and_true]
          rfl
        · rfl
      · -- open
        have h := of_decide_eq_true hl
        unfold liveP at h
        have hdue : d ≤ (atC c d).due := by
          simp only [goodC] at hq
          omega
        show some [D.v (.bool (decide ((atC c d).due ≥ d)))] = _
        rw [decide_eq_true hdue]
    · have h1 : atE c d = 2 ∨ atE c d = 32 := by
        unfold atE at ha ⊢
        rw [if_neg (by simpa using hg)] at ha ⊢
        split
        · exact .inl rfl
        · split
          · exact .inr rfl
          · exfalso
            rename_i k1 k2
            rw [if_neg k1, if_neg k2] at ha
            exact ha rfl
      rcases h1 with h1 | h1
      · rw [h1]; rfl
      · rw [h1]; rfl
  · rw [chk8 hg]
    rfl
end Go.Proofs.Ytiiaimghkmlhlaa

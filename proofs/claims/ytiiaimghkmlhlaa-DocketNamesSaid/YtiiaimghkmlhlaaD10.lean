/- An event is applied: contracts. No conditions. -/
import Derived.Test.YtiiaimghkmlhlaaD9
namespace Go.Proofs.Ytiiaimghkmlhlaa
open Go.Ev
set_option linter.all false

theorem C9_ok : CxOk C9 := mkCx_ok enter mixed (fun p h => by
  simp only [List.mem_cons, List.not_mem_nil, or_false] at h
  rcases h with rfl | rfl | rfl | rfl | rfl | rfl | rfl
  · exact den_chk
  · exact den_chkr
  · exact den_val
  · exact den_evt
  · exact den_at
  · exact den_atr
  · exact den_all) (fun l h => by cases h)
theorem evf_less (F : List D → Option (Bool × List D)) (hF : F = Fevf) : ∀ ds rs, F ds = some (true, rs) → Fevt ds = some (true, rs) := fun ds rs h => by
  subst hF
  unfold Fevf at h
  split at h
  · rename_i k xday party cents days
    simp only [Option.some.injEq, Prod.mk.injEq, decide_eq_true_eq] at h
    obtain ⟨h1, rfl⟩ := h
    have : evtB ⟨k, xday, party, cents, days⟩ = false := by rw [evtB, decide_eq_false_iff_not]; simp only [evtP]; omega
    unfold Fevt
    simp only [this]
  · cases h
theorem C9f_ok : CxOk C9f := mkCx_ok enter mixed (fun p h => by
  simp only [List.mem_cons, List.not_mem_nil, or_false] at h
  rcases h with rfl | rfl | rfl | rfl
  · exact den_chk
  · exact den_chkr
  · exact den_val.less (evf_less _ rfl)
  · exact den_evt.less (evf_less _ rfl)) (fun l h => by cases h)
theorem ap_bad {c : Cs} {x : Evt} (h : ¬ goodC c ∨ ¬ evtP x) : apE c x = 8 ∧ apC c x = zeroC := by
  have e : apE c x = 8 := if_pos h
  exact ⟨e, if_neg (by rw [e]; decide)⟩
theorem ap_at {c : Cs} {x : Evt} (hg : goodC c) (hx : evtP x) (h : atE c x.day ≠ 0) : apE c x = atE c x.day ∧ apC c x = zeroC := by
  have e : apE c x = atE c x.day := by
    unfold apE
    rw [if_neg (by simp [hg, hx]), if_pos h]
  exact ⟨e, if_neg (by rw [e]; exact h)⟩
theorem ap_go {c : Cs} {x : Evt} (hg : goodC c) (hx : evtP x) (h : atE c x.day = 0) : apE c x = if ¬ allP x.kind (atC c x.day).st then 36
    else if x.kind = 2 ∧ evid (atC c x.day) x = 9 ∨ x.kind = 7 ∧ (atC c x.day).xd = (atC c x.day).ex then 4
    else if x.cents > (atC c x.day).cl ∨ x.kind = 7 ∧ (atC c x.day).due + x.days > 200000 then 16 else 0 := by
  unfold apE
  rw [if_neg (by simp [hg, hx]), if_neg (by simp [h])]
theorem chk0 {c : Cs} (h : goodC c) : chkE c = 0 := if_pos h
theorem chk8 {c : Cs} (h : ¬ goodC c) : chkE c = 8 := if_neg h
theorem ap_no {c : Cs} {x : Evt} {e : Int} (h : apE c x = e) (he : e ≠ 0) : apC c x = zeroC := if_neg (by rw [h]; exact he)
theorem ap_yes {c : Cs} {x : Evt} (h : apE c x = 0) : apC c x = doC (atC c x.day) x := if_pos h
def FapK (kk : Int) : List D → Option (Bool × List D)
  | [.agg [.v (.int .i64 an), .v (.int .i64 ev), .v (.int .i64 de), .v (.int .i64 ex), .v (.int .i64 cl), .v (.int .u8 st), .v (.int .i64 day), .v (.int .i64 due), .v (.int .i64 xd), .v (.int .i64 e0), .v (.int .i64 e1), .v (.int .i64 aw)], .agg [.v (.int .u8 k), .v (.int .i64 xday), .v (.int .i64 party), .v (.int .i64 cents), .v (.int .i64 days)]] => some (u8B st && decide (k = kk), [csD (apC ⟨an, ev, de, ex, cl, st, day, due, xd, e0, e1, aw⟩ ⟨k, xday, party, cents, days⟩), .v (i64 (apE ⟨an, ev, de, ex, cl, st, day, due, xd, e0, e1, aw⟩ ⟨k, xday, party, cents, days⟩))])
  | _ => none
def FapF : List D → Option (Bool × List D)
  | [.agg [.v (.int .i64 an), .v (.int .i64 ev), .v (.int .i64 de), .v (.int .i64 ex), .v (.int .i64 cl), .v (.int .u8 st), .v (.int .i64 day), .v (.int .i64 due), .v (.int .i64 xd), .v (.int .i64 e0), .v (.int .i64 e1), .v (.int .i64 aw)], .agg [.v (.int .u8 k), .v (.int .i64 xday), .v (.int .i64 party), .v (.int .i64 cents), .v (.int .i64 days)]] => some (u8B st && decide (k < 1 ∨ k > 7), [csD (apC ⟨an, ev, de, ex, cl, st, day, due, xd, e0, e1, aw⟩ ⟨k, xday, party, cents, days⟩), .v (i64 (apE ⟨an, ev, de, ex, cl, st, day, due, xd, e0, e1, aw⟩ ⟨k, xday, party, cents, days⟩))])
  | _ => none
def Fap : List D → Option (Bool × List D)
  | [.agg [.v (.int .i64 an), .v (.int .i64 ev), .v (.int .i64 de), .v (.int .i64 ex), .v (.int .i64 cl), .v (.int .u8 st), .v (.int .i64 day), .v (.int .i64 due), .v (.int .i64 xd), .v (.int .i64 e0), .v (.int .i64 e1), .v (.int .i64 aw)], .agg [.v (.int .u8 k), .v (.int .i64 xday), .v (.int .i64 party), .v (.int .i64 cents), .v (.int .i64 days)]] => some (u8B st, [csD (apC ⟨an, ev, de, ex, cl, st, day, due, xd, e0, e1, aw⟩ ⟨k, xday, party, cents, days⟩), .v (i64 (apE ⟨an, ev, de, ex, cl, st, day, due, xd, e0, e1, aw⟩ ⟨k, xday, party, cents, days⟩))])
  | _ => none
theorem br_splitN {α : Type} {b : Bool} {x y : Option α} {z : Option α} (h1 : b = false → x = z) (h2 : b = true → y = z) : br (!b) x y = z := by
  cases b
  · exact h1 rfl
  · exact h2 rfl
theorem br_splitE {α : Type} {a b : Int} {x y : Option α} {z : Option α} (h1 : a = b → x = z) (h2 : ¬ a = b → y = z) : br (a == b) x y = z := br_split (fun h => h1 (by simpa using h)) (fun h => h2 (by simpa using h))
theorem br_splitA {α : Type} {p q : Prop} [Decidable p] [Decidable q] {x y : Option α} {z : Option α} (h1 : p ∧ q → x = z) (h2 : ¬ (p ∧ q) → y = z) : br (decide p && decide q) x y = z := br_split (fun h => h1 (by simpa using h)) (fun h => h2 (by simpa using h))
set_option maxHeartbeats 4000000 in
theorem den_tap1 : Den Try.prog 21 (FapK 1) := evF_den C9_ok fun ds rs h => by
  unfold FapK at h
  split at h
  · rename_i an ev de ex cl st day due xd e0 e1 aw k xday party cents days
    simp only [Option.some.injEq, Prod.mk.injEq, Bool.and_eq_true, decide_eq_true_eq] at h
    obtain ⟨⟨h1, rfl⟩, rfl⟩ := h
    refine (tap1 ⟨an, ev, de, ex, cl, st, day, due, xd, e0, e1, aw⟩ xday party cents days).trans ?_
    dsimp only
    rw [h1]
    by_cases hg : goodC ⟨an, ev, de, ex, cl, st, day, due, xd, e0, e1, aw⟩
    · by_cases hx : evtP ⟨1, xday, party, cents, days⟩
      · rw [chk0 hg, show evtB ⟨1, xday, party, cents, days⟩ = true from decide_eq_true hx]
        by_cases ha : atE ⟨an, ev, de, ex, cl, st, day, due, xd, e0, e1, aw⟩ xday = 0
        · obtain ⟨_, f1, f2, f3, f4, f5, f6, f7, f8⟩ := at_good ha
          have hE := ap_go hg hx ha
          have hN := @ap_no ⟨an, ev, de, ex, cl, st, day, due, xd, e0, e1, aw⟩ ⟨1, xday, party, cents, days⟩
          have hY := @ap_yes ⟨an, ev, de, ex, cl, st, day, due, xd, e0, e1, aw⟩ ⟨1, xday, party, cents, days⟩
          rw [ha]
          generalize apE ⟨an, ev, de, ex, cl, st, day, due, xd, e0, e1, aw⟩ ⟨1, xday, party, cents, days⟩ = E at *
          generalize apC ⟨an, ev, de, ex, cl, st, day, due, xd, e0, e1, aw⟩ ⟨1, xday, party, cents, days⟩ = R at *
          dsimp only at hE hN hY f1 f2 f3 f4 f5 f6 f7 f8
          generalize atC ⟨an, ev, de, ex, cl, st, day, due, xd, e0, e1, aw⟩ xday = q at *
          clear hg ha h1 f2 f3 f4 f5 f6
          simp only [goodC, termsP] at f1
          simp only [evtP, true_and, true_or, or_true] at hx
          obtain ⟨⟨g1, g2⟩, ⟨g3, g4⟩, ⟨g5, g6⟩, g7⟩ := f1.1
          obtain ⟨g8, g9, g10, g11, g12, g13, g14, g15⟩ := f1.2
          clear f1 g15
          (try rw [show IntKind.i64.wrap (xday + q.ev) = xday + q.ev from wrap64 (by omega) (by omega)])
          have hA' : allP 1 q.st ↔ q.st = 1 := by unfold allP liveP; omega
          have hb : allB 1 q.st = decide (allP 1 q.st) := rfl
          (try rw [hb])
          simp only [hA'] at hE ⊢
          clear hA' hb
          simp only [evid] at hE
          by_cases hp : party = 0
          · simp only [hp, if_true, true_and, true_or] at hE
            split at hE
            · rw [hN hE (by decide), hE]
              clear hE hN hY
              repeat' (first | refine br_splitE (fun h => ?_) (fun h => ?_) | refine br_splitP (fun h => ?_) (fun h => ?_) | refine br_splitA (fun h => ?_) (fun h => ?_) | refine br_split (fun h => ?_) (fun h => ?_))
              all_goals first | rfl | contradiction | (exfalso; omega) | (exfalso; (try simp only [true_and, and_true, true_or, not_tr, decide_eq_true_eq, Bool.and_eq_true] at *); omega) | fail "LEAF"
            · split at hE
              · rw [hN hE (by decide), hE]
                clear hE hN hY
                repeat' (first | refine br_splitE (fun h => ?_) (fun h => ?_) | refine br_splitP (fun h => ?_) (fun h => ?_) | refine br_splitA (fun h => ?_) (fun h => ?_) | refine br_split (fun h => ?_) (fun h => ?_))
                all_goals first | rfl | contradiction | (exfalso; omega) | (exfalso; (try simp only [true_and, and_true, true_or, not_tr, decide_eq_true_eq, Bool.and_eq_true] at *); omega) | fail "LEAF"
              · split at hE
                · rw [hN hE (by decide), hE]
                  clear hE hN hY
                  repeat' (first | refine br_splitE (fun h => ?_) (fun h => ?_) | refine br_splitP (fun h => ?_) (fun h => ?_) | refine br_splitA (fun h => ?_) (fun h => ?_) | refine br_split (fun h => ?_) (fun h => ?_))
                  all_goals first | rfl | contradiction | (exfalso; omega) | (exfalso; (try simp only [true_and, and_true, true_or, not_tr, decide_eq_true_eq, Bool.and_eq_true] at *); omega) | fail "LEAF"
                · rw [hY hE, hE]
                  clear hE hN hY
                  subst hp
                  repeat' (first | refine br_splitE (fun h => ?_) (fun h => ?_) | refine br_splitP (fun h => ?_) (fun h => ?_) | refine br_splitA (fun h => ?_) (fun h => ?_) | refine br_split (fun h => ?_) (fun h => ?_))
                  all_goals first | rfl | contradiction | (exfalso; omega) | (exfalso; (try simp only [true_and, and_true, true_or, not_tr, decide_eq_true_eq, Bool.and_eq_true] at *); omega) | fail "LEAF"
          · simp only [hp, if_false, true_and, true_or] at hE
            have hp1 : party = 1 := by omega
            split at hE
            · rw [hN hE (by decide), hE]
              clear hE hN hY
              repeat' (first | refine br_splitE (fun h => ?_) (fun h => ?_) | refine br_splitP (fun h => ?_) (fun h => ?_) | refine br_splitA (fun h => ?_) (fun h => ?_) | refine br_split (fun h => ?_) (fun h => ?_))
              all_goals first | rfl | contradiction | (exfalso; omega) | (exfalso; (try simp only [true_and, and_true, true_or, not_tr, decide_eq_true_eq, Bool.and_eq_true] at *); omega) | fail "LEAF"
            · split at hE
              · rw [hN hE (by decide), hE]
                clear hE hN hY
                repeat' (first | refine br_splitE (fun h => ?_) (fun h => ?_) | refine br_splitP (fun h => ?_) (fun h => ?_) | refine br_splitA (fun h => ?_) (fun h => ?_) | refine br_split (fun h => ?_) (fun h => ?_))
                all_goals first | rfl | contradiction | (exfalso; omega) | (exfalso; (try simp only [true_and, and_true, true_or, not_tr, decide_eq_true_eq, Bool.and_eq_true] at *); omega) | fail "LEAF"
              · split at hE
                · rw [hN hE (by decide), hE]
                  clear hE hN hY
                  repeat' (first | refine br_splitE (fun h => ?_) (fun h => ?_) | refine br_splitP (fun h => ?_) (fun h => ?_) | refine br_splitA (fun h => ?_) (fun h => ?_) | refine br_split (fun h => ?_) (fun h => ?_))
                  all_goals first | rfl | contradiction | (exfalso; omega) | (exfalso; (try simp only [true_and, and_true, true_or, not_tr, decide_eq_true_eq, Bool.and_eq_true] at *); omega) | fail "LEAF"
                · rw [hY hE, hE]
                  clear hE hN hY
                  subst hp1
                  repeat' (first | refine br_splitE (fun h => ?_) (fun h => ?_) | refine br_splitP (fun h => ?_) (fun h => ?_) | refine br_splitA (fun h => ?_) (fun h => ?_) | refine br_split (fun h => ?_) (fun h => ?_))
                  all_goals first | rfl | contradiction | (exfalso; omega) | (exfalso; (try simp only [true_and, and_true, true_or, not_tr, decide_eq_true_eq, Bool.and_eq_true] at *); omega) | fail "LEAF"
        · rw [(ap_at hg hx ha).1, (ap_at hg hx ha).2, show (atE ⟨an, ev, de, ex, cl, st, day, due, xd, e0, e1, aw⟩ xday != 0) = true by simpa using ha]
          rfl
      · rw [chk0 hg, show evtB ⟨1, xday, party, cents, days⟩ = false from decide_eq_false hx, (ap_bad (.inr hx)).1, (ap_bad (.inr hx)).2]
        rfl
    · rw [chk8 hg, (ap_bad (.inl hg)).1, (ap_bad (.inl hg)).2]
      rfl
  · cases h
set_option maxHeartbeats 4000000 in
theorem den_tap2 : Den Try.prog 21 (FapK 2) := evF_den C9_ok fun ds rs h => by
  unfold FapK at h
  split at h
  · rename_i an ev de ex cl st day due xd e0 e1 aw k xday party cents days
    simp only [Option.some.injEq, Prod.mk.injEq, Bool.and_eq_true, decide_eq_true_eq] at h
    obtain ⟨⟨h1, rfl⟩, rfl⟩ := h
    refine (tap2 ⟨an, ev, de, ex, cl, st, day, due, xd, e0, e1, aw⟩ xday party cents days).trans ?_
    dsimp only
    rw [h1]
    by_cases hg : goodC ⟨an, ev, de, ex, cl, st, day, due, xd, e0, e1, aw⟩
    · by_cases hx : evtP ⟨2, xday, party, cents, days⟩
      · rw [chk0 hg, show evtB ⟨2, xday, party, cents, days⟩ = true from decide_eq_true hx]
        by_cases ha : atE ⟨an, ev, de, ex, cl, st, day, due, xd, e0, e1, aw⟩ xday = 0
        · obtain ⟨_, f1, f2, f3, f4, f5, f6, f7, f8⟩ := at_good ha
          have hE := ap_go hg hx ha
          have hN := @ap_no ⟨an, ev, de, ex, cl, st, day, due, xd, e0, e1, aw⟩ ⟨2, xday, party, cents, days⟩
          have hY := @ap_yes ⟨an, ev, de, ex, cl, st, day, due, xd, e0, e1, aw⟩ ⟨2, xday, party, cents, days⟩
          rw [ha]
          generalize apE ⟨an, ev, de, ex, cl, st, day, due, xd, e0, e1, aw⟩ ⟨2, xday, party, cents, days⟩ = E at *
          generalize apC ⟨an, ev, de, ex, cl, st, day, due, xd, e0, e1, aw⟩ ⟨2, xday, party, cents, days⟩ = R at *
          dsimp only at hE hN hY f1 f2 f3 f4 f5 f6 f7 f8
          generalize atC ⟨an, ev, de, ex, cl, st, day, due, xd, e0, e1, aw⟩ xday = q at *
          clear hg ha h1 f2 f3 f4 f5 f6
          simp only [goodC, termsP] at f1
          simp only [evtP, true_and, true_or, or_true] at hx
          obtain ⟨⟨g1, g2⟩, ⟨g3, g4⟩, ⟨g5, g6⟩, g7⟩ := f1.1
          obtain ⟨g8, g9, g10, g11, g12, g13, g14, g15⟩ := f1.2
          clear f1 g15
          (try rw [show IntKind.i64.wrap (q.e0 + 1) = q.e0 + 1 from wrap64 (by omega) (by omega)])
          (try rw [show IntKind.i64.wrap (q.e1 + 1) = q.e1 + 1 from wrap64 (by omega) (by omega)])
          have hA' : allP 2 q.st ↔ q.st = 2 := by unfold allP liveP; omega
          have hb : allB 2 q.st = decide (allP 2 q.st) := rfl
          (try rw [hb])
          simp only [hA'] at hE ⊢
          clear hA' hb
          simp only [evid] at hE
          by_cases hp : party = 0
          · simp only [hp, if_true, true_and, true_or] at hE
            split at hE
            · rw [hN hE (by decide), hE]
              clear hE hN hY
              repeat' (first | refine br_splitE (fun h => ?_) (fun h => ?_) | refine br_splitP (fun h => ?_) (fun h => ?_) | refine br_splitA (fun h => ?_) (fun h => ?_) | refine br_split (fun h => ?_) (fun h => ?_))
              all_goals first | rfl | contradiction | (exfalso; omega) | (exfalso; (try simp only [true_and, and_true, true_or, not_tr, decide_eq_true_eq, Bool.and_eq_true] at *); omega) | fail "LEAF"
            · split at hE
              · rw [hN hE (by decide), hE]
                clear hE hN hY
                repeat' (first | refine br_splitE (fun h => ?_) (fun h => ?_) | refine br_splitP (fun h => ?_) (fun h => ?_) | refine br_splitA (fun h => ?_) (fun h => ?_) | refine br_split (fun h => ?_) (fun h => ?_))
                all_goals first | rfl | contradiction | (exfalso; omega) | (exfalso; (try simp only [true_and, and_true, true_or, not_tr, decide_eq_true_eq, Bool.and_eq_true] at *); omega) | fail "LEAF"
              · split at hE
                · rw [hN hE (by decide), hE]
                  clear hE hN hY
                  repeat' (first | refine br_splitE (fun h => ?_) (fun h => ?_) | refine br_splitP (fun h => ?_) (fun h => ?_) | refine br_splitA (fun h => ?_) (fun h => ?_) | refine br_split (fun h => ?_) (fun h => ?_))
                  all_goals first | rfl | contradiction | (exfalso; omega) | (exfalso; (try simp only [true_and, and_true, true_or, not_tr, decide_eq_true_eq, Bool.and_eq_true] at *); omega) | fail "LEAF"
                · rw [hY hE, hE]
                  clear hE hN hY
                  subst hp
                  repeat' (first | refine br_splitE (fun h => ?_) (fun h => ?_) | refine br_splitP (fun h => ?_) (fun h => ?_) | refine br_splitA (fun h => ?_) (fun h => ?_) | refine br_split (fun h => ?_) (fun h => ?_))
                  all_goals first | rfl | contradiction | (exfalso; omega) | (exfalso; (try simp only [true_and, and_true, true_or, not_tr, decide_eq_true_eq, Bool.and_eq_true] at *); omega) | fail "LEAF"
          · simp only [hp, if_false, true_and, true_or] at hE
            have hp1 : party = 1 := by omega
            split at hE
            · rw [hN hE (by decide), hE]
              clear hE hN hY
              repeat' (first | refine br_splitE (fun h => ?_) (fun h => ?_) | refine br_splitP (fun h => ?_) (fun h => ?_) | refine br_splitA (fun h => ?_) (fun h => ?_) | refine br_split (fun h => ?_) (fun h => ?_))
              all_goals first | rfl | contradiction | (exfalso; omega) | (exfalso; (try simp only [true_and, and_true, true_or, not_tr, decide_eq_true_eq, Bool.and_eq_true] at *); omega) | fail "LEAF"
            · split at hE
              · rw [hN hE (by decide), hE]
                clear hE hN hY
                repeat' (first | refine br_splitE (fun h => ?_) (fun h => ?_) | refine br_splitP (fun h => ?_) (fun h => ?_) | refine br_splitA (fun h => ?_) (fun h => ?_) | refine br_split (fun h => ?_) (fun h => ?_))
                all_goals first | rfl | contradiction | (exfalso; omega) | (exfalso; (try simp only [true_and, and_true, true_or, not_tr, decide_eq_true_eq, Bool.and_eq_true] at *); omega) | fail "LEAF"
              · split at hE
                · rw [hN hE (by decide), hE]
                  clear hE hN hY
                  repeat' (first | refine br_splitE (fun h => ?_) (fun h => ?_) | refine br_splitP (fun h => ?_) (fun h => ?_) | refine br_splitA (fun h => ?_) (fun h => ?_) | refine br_split (fun h => ?_) (fun h => ?_))
                  all_goals first | rfl | contradiction | (exfalso; omega) | (exfalso; (try simp only [true_and, and_true, true_or, not_tr, decide_eq_true_eq, Bool.and_eq_true] at *); omega) | fail "LEAF"
                · rw [hY hE, hE]
                  clear hE hN hY
                  subst hp1
                  repeat' (first | refine br_splitE (fun h => ?_) (fun h => ?_) | refine br_splitP (fun h => ?_) (fun h => ?_) | refine br_splitA (fun h => ?_) (fun h => ?_) | refine br_split (fun h => ?_) (fun h => ?_))
                  all_goals first | rfl | contradiction | (exfalso; omega) | (exfalso; (try simp only [true_and, and_true, true_or, not_tr, decide_eq_true_eq, Bool.and_eq_true] at *); omega) | fail "LEAF"
        · rw [(ap_at hg hx ha).1, (ap_at hg hx ha).2, show (atE ⟨an, ev, de, ex, cl, st, day, due, xd, e0, e1, aw⟩ xday != 0) = true by simpa using ha]
          rfl
      · rw [chk0 hg, show evtB ⟨2, xday, party, cents, days⟩ = false from decide_eq_false hx, (ap_bad (.inr hx)).1, (ap_bad (.inr hx)).2]
        rfl
    · rw [chk8 hg, (ap_bad (.inl hg)).1, (ap_bad (.inl hg)).2]
      rfl
  · cases h
set_option maxHeartbeats 4000000 in
theorem den_tap3 : Den Try.prog 21 (FapK 3) := evF_den C9_ok fun ds rs h => by
  unfold FapK at h
  split at h
  · rename_i an ev de ex cl st day due xd e0 e1 aw k xday party cents days
    simp only [Option.some.injEq, Prod.mk.injEq, Bool.and_eq_true, decide_eq_true_eq] at h
    obtain ⟨⟨h1, rfl⟩, rfl⟩ := h
    refine (tap3 ⟨an, ev, de, ex, cl, st, day, due, xd, e0, e1, aw⟩ xday party cents days).trans ?_
    dsimp only
    rw [h1]
    by_cases hg : goodC ⟨an, ev, de, ex, cl, st, day, due, xd, e0, e1, aw⟩
    · by_cases hx : evtP ⟨3, xday, party, cents, days⟩
      · rw [chk0 hg, show evtB ⟨3, xday, party, cents, days⟩ = true from decide_eq_true hx]
        by_cases ha : atE ⟨an, ev, de, ex, cl, st, day, due, xd, e0, e1, aw⟩ xday = 0
        · obtain ⟨_, f1, f2, f3, f4, f5, f6, f7, f8⟩ := at_good ha
          have hE := ap_go hg hx ha
          have hN := @ap_no ⟨an, ev, de, ex, cl, st, day, due, xd, e0, e1, aw⟩ ⟨3, xday, party, cents, days⟩
          have hY := @ap_yes ⟨an, ev, de, ex, cl, st, day, due, xd, e0, e1, aw⟩ ⟨3, xday, party, cents, days⟩
          rw [ha]
          generalize apE ⟨an, ev, de, ex, cl, st, day, due, xd, e0, e1, aw⟩ ⟨3, xday, party, cents, days⟩ = E at *
          generalize apC ⟨an, ev, de, ex, cl, st, day, due, xd, e0, e1, aw⟩ ⟨3, xday, party, cents, days⟩ = R at *
          dsimp only at hE hN hY f1 f2 f3 f4 f5 f6 f7 f8
          generalize atC ⟨an, ev, de, ex, cl, st, day, due, xd, e0, e1, aw⟩ xday = q at *
          clear hg ha h1 f2 f3 f4 f5 f6
          simp only [goodC, termsP] at f1
          simp only [evtP, true_and, true_or, or_true] at hx
          obtain ⟨⟨g1, g2⟩, ⟨g3, g4⟩, ⟨g5, g6⟩, g7⟩ := f1.1
          obtain ⟨g8, g9, g10, g11, g12, g13, g14, g15⟩ := f1.2
          clear f1 g15
          (try rw [show IntKind.i64.wrap (xday + q.de) = xday + q.de from wrap64 (by omega) (by omega)])
          have hA' : allP 3 q.st ↔ q.st = 2 := by unfold allP liveP; omega
          have hb : allB 3 q.st = decide (allP 3 q.st) := rfl
          (try rw [hb])
          simp only [hA'] at hE ⊢
          clear hA' hb
          simp only [evid] at hE
          by_cases hp : party = 0
          · simp only [hp, if_true, true_and, true_or] at hE
            split at hE
            · rw [hN hE (by decide), hE]
              clear hE hN hY
              repeat' (first | refine br_splitE (fun h => ?_) (fun h => ?_) | refine br_splitP (fun h => ?_) (fun h => ?_) | refine br_splitA (fun h => ?_) (fun h => ?_) | refine br_split (fun h => ?_) (fun h => ?_))
              all_goals first | rfl | contradiction | (exfalso; omega) | (exfalso; (try simp only [true_and, and_true, true_or, not_tr, decide_eq_true_eq, Bool.and_eq_true] at *); omega) | fail "LEAF"
            · split at hE
              · rw [hN hE (by decide), hE]
                clear hE hN hY
                repeat' (first | refine br_splitE (fun h => ?_) (fun h => ?_) | refine br_splitP (fun h => ?_) (fun h => ?_) | refine br_splitA (fun h => ?_) (fun h => ?_) | refine br_split (fun h => ?_) (fun h => ?_))
                all_goals first | rfl | contradiction | (exfalso; omega) | (exfalso; (try simp only [true_and, and_true, true_or, not_tr, decide_eq_true_eq, Bool.and_eq_true] at *); omega) | fail "LEAF"
              · split at hE
                · rw [hN hE (by decide), hE]
                  clear hE hN hY
                  repeat' (first | refine br_splitE (fun h => ?_) (fun h => ?_) | refine br_splitP (fun h => ?_) (fun h => ?_) | refine br_splitA (fun h => ?_) (fun h => ?_) | refine br_split (fun h => ?_) (fun h => ?_))
                  all_goals first | rfl | contradiction | (exfalso; omega) | (exfalso; (try simp only [true_and, and_true, true_or, not_tr, decide_eq_true_eq, Bool.and_eq_true] at *); omega) | fail "LEAF"
                · rw [hY hE, hE]
                  clear hE hN hY
                  subst hp
                  repeat' (first | refine br_splitE (fun h => ?_) (fun h => ?_) | refine br_splitP (fun h => ?_) (fun h => ?_) | refine br_splitA (fun h => ?_) (fun h => ?_) | refine br_split (fun h => ?_) (fun h => ?_))
                  all_goals first | rfl | contradiction | (exfalso; omega) | (exfalso; (try simp only [true_and, and_true, true_or, not_tr, decide_eq_true_eq, Bool.and_eq_true] at *); omega) | fail "LEAF"
          · simp only [hp, if_false, true_and, true_or] at hE
            have hp1 : party = 1 := by omega
            split at hE
            · rw [hN hE (by decide), hE]
              clear hE hN hY
              repeat' (first | refine br_splitE (fun h => ?_) (fun h => ?_) | refine br_splitP (fun h => ?_) (fun h => ?_) | refine br_splitA (fun h => ?_) (fun h => ?_) | refine br_split (fun h => ?_) (fun h => ?_))
              all_goals first | rfl | contradiction | (exfalso; omega) | (exfalso; (try simp only [true_and, and_true, true_or, not_tr, decide_eq_true_eq, Bool.and_eq_true] at *); omega) | fail "LEAF"
            · split at hE
              · rw [hN hE (by decide), hE]
                clear hE hN hY
                repeat' (first | refine br_splitE (fun h => ?_) (fun h => ?_) | refine br_splitP (fun h => ?_) (fun h => ?_) | refine br_splitA (fun h => ?_) (fun h => ?_) | refine br_split (fun h => ?_) (fun h => ?_))
                all_goals first | rfl | contradiction | (exfalso; omega) | (exfalso; (try simp only [true_and, and_true, true_or, not_tr, decide_eq_true_eq, Bool.and_eq_true] at *); omega) | fail "LEAF"
              · split at hE
                · rw [hN hE (by decide), hE]
                  clear hE hN hY
                  repeat' (first | refine br_splitE (fun h => ?_) (fun h => ?_) | refine br_splitP (fun h => ?_) (fun h => ?_) | refine br_splitA (fun h => ?_) (fun h => ?_) | refine br_split (fun h => ?_) (fun h => ?_))
                  all_goals first | rfl | contradiction | (exfalso; omega) | (exfalso; (try simp only [true_and, and_true, true_or, not_tr, decide_eq_true_eq, Bool.and_eq_true] at *); omega) | fail "LEAF"
                · rw [hY hE, hE]
                  clear hE hN hY
                  subst hp1
                  repeat' (first | refine br_splitE (fun h => ?_) (fun h => ?_) | refine br_splitP (fun h => ?_) (fun h => ?_) | refine br_splitA (fun h => ?_) (fun h => ?_) | refine br_split (fun h => ?_) (fun h => ?_))
                  all_goals first | rfl | contradiction | (exfalso; omega) | (exfalso; (try simp only [true_and, and_true, true_or, not_tr, decide_eq_true_eq, Bool.and_eq_true] at *); omega) | fail "LEAF"
        · rw [(ap_at hg hx ha).1, (ap_at hg hx ha).2, show (atE ⟨an, ev, de, ex, cl, st, day, due, xd, e0, e1, aw⟩ xday != 0) = true by simpa using ha]
          rfl
      · rw [chk0 hg, show evtB ⟨3, xday, party, cents, days⟩ = false from decide_eq_false hx, (ap_bad (.inr hx)).1, (ap_bad (.inr hx)).2]
        rfl
    · rw [chk8 hg, (ap_bad (.inl hg)).1, (ap_bad (.inl hg)).2]
      rfl
  · cases h
set_option maxHeartbeats 4000000 in
theorem den_tap4 : Den Try.prog 21 (FapK 4) := evF_den C9_ok fun ds rs h => by
  unfold FapK at h
  split at h
  · rename_i an ev de ex cl st day due xd e0 e1 aw k xday party cents days
    simp only [Option.some.injEq, Prod.mk.injEq, Bool.and_eq_true, decide_eq_true_eq] at h
    obtain ⟨⟨h1, rfl⟩, rfl⟩ := h
    refine (tap4 ⟨an, ev, de, ex, cl, st, day, due, xd, e0, e1, aw⟩ xday party cents days).trans ?_
    dsimp only
    rw [h1]
    by_cases hg : goodC ⟨an, ev, de, ex, cl, st, day, due, xd, e0, e1, aw⟩
    · by_cases hx : evtP ⟨4, xday, party, cents, days⟩
      · rw [chk0 hg, show evtB ⟨4, xday, party, cents, days⟩ = true from decide_eq_true hx]
        by_cases ha : atE ⟨an, ev, de, ex, cl, st, day, due, xd, e0, e1, aw⟩ xday = 0
        · obtain ⟨_, f1, f2, f3, f4, f5, f6, f7, f8⟩ := at_good ha
          have hE := ap_go hg hx ha
          have hN := @ap_no ⟨an, ev, de, ex, cl, st, day, due, xd, e0, e1, aw⟩ ⟨4, xday, party, cents, days⟩
          have hY := @ap_yes ⟨an, ev, de, ex, cl, st, day, due, xd, e0, e1, aw⟩ ⟨4, xday, party, cents, days⟩
          rw [ha]
          generalize apE ⟨an, ev, de, ex, cl, st, day, due, xd, e0, e1, aw⟩ ⟨4, xday, party, cents, days⟩ = E at *
          generalize apC ⟨an, ev, de, ex, cl, st, day, due, xd, e0, e1, aw⟩ ⟨4, xday, party, cents, days⟩ = R at *
          dsimp only at hE hN hY f1 f2 f3 f4 f5 f6 f7 f8
          generalize atC ⟨an, ev, de, ex, cl, st, day, due, xd, e0, e1, aw⟩ xday = q at *
          clear hg ha h1 f2 f3 f4 f5 f6
          simp only [goodC, termsP] at f1
          simp only [evtP, true_and, true_or, or_true] at hx
          obtain ⟨⟨g1, g2⟩, ⟨g3, g4⟩, ⟨g5, g6⟩, g7⟩ := f1.1
          obtain ⟨g8, g9, g10, g11, g12, g13, g14, g15⟩ := f1.2
          clear f1 g15
          have hA' : allP 4 q.st ↔ q.st = 3 := by unfold allP liveP; omega
          have hb : allB 4 q.st = decide (allP 4 q.st) := rfl
          (try rw [hb])
          simp only [hA'] at hE ⊢
          clear hA' hb
          simp only [evid] at hE
          by_cases hp : party = 0
          · simp only [hp, if_true, true_and, true_or] at hE
            split at hE
            · rw [hN hE (by decide), hE]
              clear hE hN hY
              repeat' (first | refine br_splitE (fun h => ?_) (fun h => ?_) | refine br_splitP (fun h => ?_) (fun h => ?_) | refine br_splitA (fun h => ?_) (fun h => ?_) | refine br_split (fun h => ?_) (fun h => ?_))
              all_goals first | rfl | contradiction | (exfalso; omega) | (exfalso; (try simp only [true_and, and_true, true_or, not_tr, decide_eq_true_eq, Bool.and_eq_true] at *); omega) | fail "LEAF"
            · split at hE
              · rw [hN hE (by decide), hE]
                clear hE hN hY
                repeat' (first | refine br_splitE (fun h => ?_) (fun h => ?_) | refine br_splitP (fun h => ?_) (fun h => ?_) | refine br_splitA (fun h => ?_) (fun h => ?_) | refine br_split (fun h => ?_) (fun h => ?_))
                all_goals first | rfl | contradiction | (exfalso; omega) | (exfalso; (try simp only [true_and, and_true, true_or, not_tr, decide_eq_true_eq, Bool.and_eq_true] at *); omega) | fail "LEAF"
              · split at hE
                · rw [hN hE (by decide), hE]
                  clear hE hN hY
                  repeat' (first | refine br_splitE (fun h => ?_) (fun h => ?_) | refine br_splitP (fun h => ?_) (fun h => ?_) | refine br_splitA (fun h => ?_) (fun h => ?_) | refine br_split (fun h => ?_) (fun h => ?_))
                  all_goals first | rfl | contradiction | (exfalso; omega) | (exfalso; (try simp only [true_and, and_true, true_or, not_tr, decide_eq_true_eq, Bool.and_eq_true] at *); omega) | fail "LEAF"
                · rw [hY hE, hE]
                  clear hE hN hY
                  subst hp
                  repeat' (first | refine br_splitE (fun h => ?_) (fun h => ?_) | refine br_splitP (fun h => ?_) (fun h => ?_) | refine br_splitA (fun h => ?_) (fun h => ?_) | refine br_split (fun h => ?_) (fun h => ?_))
                  all_goals first | rfl | contradiction | (exfalso; omega) | (exfalso; (try simp only [true_and, and_true, true_or, not_tr, decide_eq_true_eq, Bool.and_eq_true] at *); omega) | fail "LEAF"
          · simp only [hp, if_false, true_and, true_or] at hE
            have hp1 : party = 1 := by omega
            split at hE
            · rw [hN hE (by decide), hE]
              clear hE hN hY
              repeat' (first | refine br_splitE (fun h => ?_) (fun h => ?_) | refine br_splitP (fun h => ?_) (fun h => ?_) | refine br_splitA (fun h => ?_) (fun h => ?_) | refine br_split (fun h => ?_) (fun h => ?_))
              all_goals first | rfl | contradiction | (exfalso; omega) | (exfalso; (try simp only [true_and, and_true, true_or, not_tr, decide_eq_true_eq, Bool.and_eq_true] at *); omega) | fail "LEAF"
            · split at hE
              · rw [hN hE (by decide), hE]
                clear hE hN hY
                repeat' (first | refine br_splitE (fun h => ?_) (fun h => ?_) | refine br_splitP (fun h => ?_) (fun h => ?_) | refine br_splitA (fun h => ?_) (fun h => ?_) | refine br_split (fun h => ?_) (fun h => ?_))
                all_goals first | rfl | contradiction | (exfalso; omega) | (exfalso; (try simp only [true_and, and_true, true_or, not_tr, decide_eq_true_eq, Bool.and_eq_true] at *); omega) | fail "LEAF"
              · split at hE
                · rw [hN hE (by decide), hE]
                  clear hE hN hY
                  repeat' (first | refine br_splitE (fun h => ?_) (fun h => ?_) | refine br_splitP (fun h => ?_) (fun h => ?_) | refine br_splitA (fun h => ?_) (fun h => ?_) | refine br_split (fun h => ?_) (fun h => ?_))
                  all_goals first | rfl | contradiction | (exfalso; omega) | (exfalso; (try simp only [true_and, and_true, true_or, not_tr, decide_eq_true_eq, Bool.and_eq_true] at *); omega) | fail "LEAF"
                · rw [hY hE, hE]
                  clear hE hN hY
                  subst hp1
                  repeat' (first | refine br_splitE (fun h => ?_) (fun h => ?_) | refine br_splitP (fun h => ?_) (fun h => ?_) | refine br_splitA (fun h => ?_) (fun h => ?_) | refine br_split (fun h => ?_) (fun h => ?_))
                  all_goals first | rfl | contradiction | (exfalso; omega) | (exfalso; (try simp only [true_and, and_true, true_or, not_tr, decide_eq_true_eq, Bool.and_eq_true] at *); omega) | fail "LEAF"
        · rw [(ap_at hg hx ha).1, (ap_at hg hx ha).2, show (atE ⟨an, ev, de, ex, cl, st, day, due, xd, e0, e1, aw⟩ xday != 0) = true by simpa using ha]
          rfl
      · rw [chk0 hg, show evtB ⟨4, xday, party, cents, days⟩ = false from decide_eq_false hx, (ap_bad (.inr hx)).1, (ap_bad (.inr hx)).2]
        rfl
    · rw [chk8 hg, (ap_bad (.inl hg)).1, (ap_bad (.inl hg)).2]
      rfl
  · cases h
set_option maxHeartbeats 4000000 in
theorem den_tap5 : Den Try.prog 21 (FapK 5) := evF_den C9_ok fun ds rs h => by
  unfold FapK at h
  split at h
  · rename_i an ev de ex cl st day due xd e0 e1 aw k xday party cents days
    simp only [Option.some.injEq, Prod.mk.injEq, Bool.and_eq_true, decide_eq_true_eq] at h
    obtain ⟨⟨h1, rfl⟩, rfl⟩ := h
    refine (tap5 ⟨an, ev, de, ex, cl, st, day, due, xd, e0, e1, aw⟩ xday party cents days).trans ?_
    dsimp only
    rw [h1]
    by_cases hg : goodC ⟨an, ev, de, ex, cl, st, day, due, xd, e0, e1, aw⟩
    · by_cases hx : evtP ⟨5, xday, party, cents, days⟩
      · rw [chk0 hg, show evtB ⟨5, xday, party, cents, days⟩ = true from decide_eq_true hx]
        by_cases ha : atE ⟨an, ev, de, ex, cl, st, day, due, xd, e0, e1, aw⟩ xday = 0
        · obtain ⟨_, f1, f2, f3, f4, f5, f6, f7, f8⟩ := at_good ha
          have hE := ap_go hg hx ha
          have hN := @ap_no ⟨an, ev, de, ex, cl, st, day, due, xd, e0, e1, aw⟩ ⟨5, xday, party, cents, days⟩
          have hY := @ap_yes ⟨an, ev, de, ex, cl, st, day, due, xd, e0, e1, aw⟩ ⟨5, xday, party, cents, days⟩
          rw [ha]
          generalize apE ⟨an, ev, de, ex, cl, st, day, due, xd, e0, e1, aw⟩ ⟨5, xday, party, cents, days⟩ = E at *
          generalize apC ⟨an, ev, de, ex, cl, st, day, due, xd, e0, e1, aw⟩ ⟨5, xday, party, cents, days⟩ = R at *
          dsimp only at hE hN hY f1 f2 f3 f4 f5 f6 f7 f8
          generalize atC ⟨an, ev, de, ex, cl, st, day, due, xd, e0, e1, aw⟩ xday = q at *
          clear hg ha h1 f2 f3 f4 f5 f6
          simp only [goodC, termsP] at f1
          simp only [evtP, true_and, true_or, or_true] at hx
          obtain ⟨⟨g1, g2⟩, ⟨g3, g4⟩, ⟨g5, g6⟩, g7⟩ := f1.1
          obtain ⟨g8, g9, g10, g11, g12, g13, g14, g15⟩ := f1.2
          clear f1 g15
          have hA' : allP 5 q.st ↔ (q.st = 1 ∨ q.st = 2 ∨ q.st = 3) := by unfold allP liveP; omega
          have hb : allB 5 q.st = decide (allP 5 q.st) := rfl
          (try rw [hb])
          simp only [hA'] at hE ⊢
          clear hA' hb
          simp only [evid] at hE
          by_cases hp : party = 0
          · simp only [hp, if_true, true_and, true_or] at hE
            split at hE
            · rw [hN hE (by decide), hE]
              clear hE hN hY
              repeat' (first | refine br_splitE (fun h => ?_) (fun h => ?_) | refine br_splitP (fun h => ?_) (fun h => ?_) | refine br_splitA (fun h => ?_) (fun h => ?_) | refine br_split (fun h => ?_) (fun h => ?_))
              all_goals first | rfl | contradiction | (exfalso; omega) | (exfalso; (try simp only [true_and, and_true, true_or, not_tr, decide_eq_true_eq, Bool.and_eq_true] at *); omega) | fail "LEAF"
            · split at hE
              · rw [hN hE (by decide), hE]
                clear hE hN hY
                repeat' (first | refine br_splitE (fun h => ?_) (fun h => ?_) | refine br_splitP (fun h => ?_) (fun h => ?_) | refine br_splitA (fun h => ?_) (fun h => ?_) | refine br_split (fun h => ?_) (fun h => ?_))
                all_goals first | rfl | contradiction | (exfalso; omega) | (exfalso; (try simp only [true_and, and_true, true_or, not_tr, decide_eq_true_eq, Bool.and_eq_true] at *); omega) | fail "LEAF"
              · split at hE
                · rw [hN hE (by decide), hE]
                  clear hE hN hY
                  repeat' (first | refine br_splitE (fun h => ?_) (fun h => ?_) | refine br_splitP (fun h => ?_) (fun h => ?_) | refine br_splitA (fun h => ?_) (fun h => ?_) | refine br_split (fun h => ?_) (fun h => ?_))
                  all_goals first | rfl | contradiction | (exfalso; omega) | (exfalso; (try simp only [true_and, and_true, true_or, not_tr, decide_eq_true_eq, Bool.and_eq_true] at *); omega) | fail "LEAF"
                · rw [hY hE, hE]
                  clear hE hN hY
                  subst hp
                  repeat' (first | refine br_splitE (fun h => ?_) (fun h => ?_) | refine br_splitP (fun h => ?_) (fun h => ?_) | refine br_splitA (fun h => ?_) (fun h => ?_) | refine br_split (fun h => ?_) (fun h => ?_))
                  all_goals first | rfl | contradiction | (exfalso; omega) | (exfalso; (try simp only [true_and, and_true, true_or, not_tr, decide_eq_true_eq, Bool.and_eq_true] at *); omega) | fail "LEAF"
          · simp only [hp, if_false, true_and, true_or] at hE
            have hp1 : party = 1 := by omega
            split at hE
            · rw [hN hE (by decide), hE]
              clear hE hN hY
              repeat' (first | refine br_splitE (fun h => ?_) (fun h => ?_) | refine br_splitP (fun h => ?_) (fun h => ?_) | refine br_splitA (fun h => ?_) (fun h => ?_) | refine br_split (fun h => ?_) (fun h => ?_))
              all_goals first | rfl | contradiction | (exfalso; omega) | (exfalso; (try simp only [true_and, and_true, true_or, not_tr, decide_eq_true_eq, Bool.and_eq_true] at *); omega) | fail "LEAF"
            · split at hE
              · rw [hN hE (by decide), hE]
                clear hE hN hY
                repeat' (first | refine br_splitE (fun h => ?_) (fun h => ?_) | refine br_splitP (fun h => ?_) (fun h => ?_) | refine br_splitA (fun h => ?_) (fun h => ?_) | refine br_split (fun h => ?_) (fun h => ?_))
                all_goals first | rfl | contradiction | (exfalso; omega) | (exfalso; (try simp only [true_and, and_true, true_or, not_tr, decide_eq_true_eq, Bool.and_eq_true] at *); omega) | fail "LEAF"
              · split at hE
                · rw [hN hE (by decide), hE]
                  clear hE hN hY
                  repeat' (first | refine br_splitE (fun h => ?_) (fun h => ?_) | refine br_splitP (fun h => ?_) (fun h => ?_) | refine br_splitA (fun h => ?_) (fun h => ?_) | refine br_split (fun h => ?_) (fun h => ?_))
                  all_goals first | rfl | contradiction | (exfalso; omega) | (exfalso; (try simp only [true_and, and_true, true_or, not_tr, decide_eq_true_eq, Bool.and_eq_true] at *); omega) | fail "LEAF"
                · rw [hY hE, hE]
                  clear hE hN hY
                  subst hp1
                  repeat' (first | refine br_splitE (fun h => ?_) (fun h => ?_) | refine br_splitP (fun h => ?_) (fun h => ?_) | refine br_splitA (fun h => ?_) (fun h => ?_) | refine br_split (fun h => ?_) (fun h => ?_))
                  all_goals first | rfl | contradiction | (exfalso; omega) | (exfalso; (try simp only [true_and, and_true, true_or, not_tr, decide_eq_true_eq, Bool.and_eq_true] at *); omega) | fail "LEAF"
        · rw [(ap_at hg hx ha).1, (ap_at hg hx ha).2, show (atE ⟨an, ev, de, ex, cl, st, day, due, xd, e0, e1, aw⟩ xday != 0) = true by simpa using ha]
          rfl
      · rw [chk0 hg, show evtB ⟨5, xday, party, cents, days⟩ = false from decide_eq_false hx, (ap_bad (.inr hx)).1, (ap_bad (.inr hx)).2]
        rfl
    · rw [chk8 hg, (ap_bad (.inl hg)).1, (ap_bad (.inl hg)).2]
      rfl
  · cases h
set_option maxHeartbeats 4000000 in
theorem den_tap6 : Den Try.prog 21 (FapK 6) := evF_den C9_ok fun ds rs h => by
  unfold FapK at h
  split at h
  · rename_i an ev de ex cl st day due xd e0 e1 aw k xday party cents days
    simp only [Option.some.injEq, Prod.mk.injEq, Bool.and_eq_true, decide_eq_true_eq] at h
    obtain ⟨⟨h1, rfl⟩, rfl⟩ := h
    refine (tap6 ⟨an, ev, de, ex, cl, st, day, due, xd, e0, e1, aw⟩ xday party cents days).trans ?_
    dsimp only
    rw [h1]
    by_cases hg : goodC ⟨an, ev, de, ex, cl, st, day, due, xd, e0, e1, aw⟩
    · by_cases hx : evtP ⟨6, xday, party, cents, days⟩
      · rw [chk0 hg, show evtB ⟨6, xday, party, cents, days⟩ = true from decide_eq_true hx]
        by_cases ha : atE ⟨an, ev, de, ex, cl, st, day, due, xd, e0, e1, aw⟩ xday = 0
        · obtain ⟨_, f1, f2, f3, f4, f5, f6, f7, f8⟩ := at_good ha
          have hE := ap_go hg hx ha
          have hN := @ap_no ⟨an, ev, de, ex, cl, st, day, due, xd, e0, e1, aw⟩ ⟨6, xday, party, cents, days⟩
          have hY := @ap_yes ⟨an, ev, de, ex, cl, st, day, due, xd, e0, e1, aw⟩ ⟨6, xday, party, cents, days⟩
          rw [ha]
          generalize apE ⟨an, ev, de, ex, cl, st, day, due, xd, e0, e1, aw⟩ ⟨6, xday, party, cents, days⟩ = E at *
          generalize apC ⟨an, ev, de, ex, cl, st, day, due, xd, e0, e1, aw⟩ ⟨6, xday, party, cents, days⟩ = R at *
          dsimp only at hE hN hY f1 f2 f3 f4 f5 f6 f7 f8
          generalize atC ⟨an, ev, de, ex, cl, st, day, due, xd, e0, e1, aw⟩ xday = q at *
          clear hg ha h1 f2 f3 f4 f5 f6
          simp only [goodC, termsP] at f1
          simp only [evtP, true_and, true_or, or_true] at hx
          obtain ⟨⟨g1, g2⟩, ⟨g3, g4⟩, ⟨g5, g6⟩, g7⟩ := f1.1
          obtain ⟨g8, g9, g10, g11, g12, g13, g14, g15⟩ := f1.2
          clear f1 g15
          have hA' : allP 6 q.st ↔ (q.st = 1 ∨ q.st = 2) := by unfold allP liveP; omega
          have hb : allB 6 q.st = decide (allP 6 q.st) := rfl
          (try rw [hb])
          simp only [hA'] at hE ⊢
          clear hA' hb
          simp only [evid] at hE
          by_cases hp : party = 0
          · simp only [hp, if_true, true_and, true_or] at hE
            split at hE
            · rw [hN hE (by decide), hE]
              clear hE hN hY
              repeat' (first | refine br_splitE (fun h => ?_) (fun h => ?_) | refine br_splitP (fun h => ?_) (fun h => ?_) | refine br_splitA (fun h => ?_) (fun h => ?_) | refine br_split (fun h => ?_) (fun h => ?_))
              all_goals first | rfl | contradiction | (exfalso; omega) | (exfalso; (try simp only [true_and, and_true, true_or, not_tr, decide_eq_true_eq, Bool.and_eq_true] at *); omega) | fail "LEAF"
            · split at hE
              · rw [hN hE (by decide), hE]
                clear hE hN hY
                repeat' (first | refine br_splitE (fun h => ?_) (fun h => ?_) | refine br_splitP (fun h => ?_) (fun h => ?_) | refine br_splitA (fun h => ?_) (fun h => ?_) | refine br_split (fun h => ?_) (fun h => ?_))
                all_goals first | rfl | contradiction | (exfalso; omega) | (exfalso; (try simp only [true_and, and_true, true_or, not_tr, decide_eq_true_eq, Bool.and_eq_true] at *); omega) | fail "LEAF"
              · split at hE
                · rw [hN hE (by decide), hE]
                  clear hE hN hY
                  repeat' (first | refine br_splitE (fun h => ?_) (fun h => ?_) | refine br_splitP (fun h => ?_) (fun h => ?_) | refine br_splitA (fun h => ?_) (fun h => ?_) | refine br_split (fun h => ?_) (fun h => ?_))
                  all_goals first | rfl | contradiction | (exfalso; omega) | (exfalso; (try simp only [true_and, and_true, true_or, not_tr, decide_eq_true_eq, Bool.and_eq_true] at *); omega) | fail "LEAF"
                · rw [hY hE, hE]
                  clear hE hN hY
                  subst hp
                  repeat' (first | refine br_splitE (fun h => ?_) (fun h => ?_) | refine br_splitP (fun h => ?_) (fun h => ?_) | refine br_splitA (fun h => ?_) (fun h => ?_) | refine br_split (fun h => ?_) (fun h => ?_))
                  all_goals first | rfl | contradiction | (exfalso; omega) | (exfalso; (try simp only [true_and, and_true, true_or, not_tr, decide_eq_true_eq, Bool.and_eq_true] at *); omega) | fail "LEAF"
          · simp only [hp, if_false, true_and, true_or] at hE
            have hp1 : party = 1 := by omega
            split at hE
            · rw [hN hE (by decide), hE]
              clear hE hN hY
              repeat' (first | refine br_splitE (fun h => ?_) (fun h => ?_) | refine br_splitP (fun h => ?_) (fun h => ?_) | refine br_splitA (fun h => ?_) (fun h => ?_) | refine br_split (fun h => ?_) (fun h => ?_))
              all_goals first | rfl | contradiction | (exfalso; omega) | (exfalso; (try simp only [true_and, and_true, true_or, not_tr, decide_eq_true_eq, Bool.and_eq_true] at *); omega) | fail "LEAF"
            · split at hE
              · rw [hN hE (by decide), hE]
                clear hE hN hY
                repeat' (first | refine br_splitE (fun h => ?_) (fun h => ?_) | refine br_splitP (fun h => ?_) (fun h => ?_) | refine br_splitA (fun h => ?_) (fun h => ?_) | refine br_split (fun h => ?_) (fun h => ?_))
                all_goals first | rfl | contradiction | (exfalso; omega) | (exfalso; (try simp only [true_and, and_true, true_or, not_tr, decide_eq_true_eq, Bool.and_eq_true] at *); omega) | fail "LEAF"
              · split at hE
                · rw [hN hE (by decide), hE]
                  clear hE hN hY
                  repeat' (first | refine br_splitE (fun h => ?_) (fun h => ?_) | refine br_splitP (fun h => ?_) (fun h => ?_) | refine br_splitA (fun h => ?_) (fun h => ?_) | refine br_split (fun h => ?_) (fun h => ?_))
                  all_goals first | rfl | contradiction | (exfalso; omega) | (exfalso; (try simp only [true_and, and_true, true_or, not_tr, decide_eq_true_eq, Bool.and_eq_true] at *); omega) | fail "LEAF"
                · rw [hY hE, hE]
                  clear hE hN hY
                  subst hp1
                  repeat' (first | refine br_splitE (fun h => ?_) (fun h => ?_) | refine br_splitP (fun h => ?_) (fun h => ?_) | refine br_splitA (fun h => ?_) (fun h => ?_) | refine br_split (fun h => ?_) (fun h => ?_))
                  all_goals first | rfl | contradiction | (exfalso; omega) | (exfalso; (try simp only [true_and, and_true, true_or, not_tr, decide_eq_true_eq, Bool.and_eq_true] at *); omega) | fail "LEAF"
        · rw [(ap_at hg hx ha).1, (ap_at hg hx ha).2, show (atE ⟨an, ev, de, ex, cl, st, day, due, xd, e0, e1, aw⟩ xday != 0) = true by simpa using ha]
          rfl
      · rw [chk0 hg, show evtB ⟨6, xday, party, cents, days⟩ = false from decide_eq_false hx, (ap_bad (.inr hx)).1, (ap_bad (.inr hx)).2]
        rfl
    · rw [chk8 hg, (ap_bad (.inl hg)).1, (ap_bad (.inl hg)).2]
      rfl
  · cases h
set_option maxHeartbeats 4000000 in
theorem den_tap7 : Den Try.prog 21 (FapK 7) := evF_den C9_ok fun ds rs h => by
  unfold FapK at h
  split at h
  · rename_i an ev de ex cl st day due xd e0 e1 aw k xday party cents days
    simp only [Option.some.injEq, Prod.mk.injEq, Bool.and_eq_true, decide_eq_true_eq] at h
    obtain ⟨⟨h1, rfl⟩, rfl⟩ := h
    refine (tap7 ⟨an, ev, de, ex, cl, st, day, due, xd, e0, e1, aw⟩ xday party cents days).trans ?_
    dsimp only
    rw [h1]
    by_cases hg : goodC ⟨an, ev, de, ex, cl, st, day, due, xd, e0, e1, aw⟩
    · by_cases hx : evtP ⟨7, xday, party, cents, days⟩
      · rw [chk0 hg, show evtB ⟨7, xday, party, cents, days⟩ = true from decide_eq_true hx]
        by_cases ha : atE ⟨an, ev, de, ex, cl, st, day, due, xd, e0, e1, aw⟩ xday = 0
        · obtain ⟨_, f1, f2, f3, f4, f5, f6, f7, f8⟩ := at_good ha
          have hE := ap_go hg hx ha
          have hN := @ap_no ⟨an, ev, de, ex, cl, st, day, due, xd, e0, e1, aw⟩ ⟨7, xday, party, cents, days⟩
          have hY := @ap_yes ⟨an, ev, de, ex, cl, st, day, due, xd, e0, e1, aw⟩ ⟨7, xday, party, cents, days⟩
          rw [ha]
          generalize apE ⟨an, ev, de, ex, cl, st, day, due, xd, e0, e1, aw⟩ ⟨7, xday, party, cents, days⟩ = E at *
          generalize apC ⟨an, ev, de, ex, cl, st, day, due, xd, e0, e1, aw⟩ ⟨7, xday, party, cents, days⟩ = R at *
          dsimp only at hE hN hY f1 f2 f3 f4 f5 f6 f7 f8
          generalize atC ⟨an, ev, de, ex, cl, st, day, due, xd, e0, e1, aw⟩ xday = q at *
          clear hg ha h1 f2 f3 f4 f5 f6
          simp only [goodC, termsP] at f1
          simp only [evtP, true_and, true_or, or_true] at hx
          obtain ⟨⟨g1, g2⟩, ⟨g3, g4⟩, ⟨g5, g6⟩, g7⟩ := f1.1
          obtain ⟨g8, g9, g10, g11, g12, g13, g14, g15⟩ := f1.2
          clear f1 g15
          (try rw [show IntKind.i64.wrap (q.xd + 1) = q.xd + 1 from wrap64 (by omega) (by omega)])
          (try rw [show IntKind.i64.wrap (q.due + days) = q.due + days from wrap64 (by omega) (by omega)])
          have hA' : allP 7 q.st ↔ (q.st = 1 ∨ q.st = 2) := by unfold allP liveP; omega
          have hb : allB 7 q.st = decide (allP 7 q.st) := rfl
          (try rw [hb])
          simp only [hA'] at hE ⊢
          clear hA' hb
          simp only [evid] at hE
          by_cases hp : party = 0
          · simp only [hp, if_true, true_and, true_or] at hE
            split at hE
            · rw [hN hE (by decide), hE]
              clear hE hN hY
              repeat' (first | refine br_splitE (fun h => ?_) (fun h => ?_) | refine br_splitP (fun h => ?_) (fun h => ?_) | refine br_splitA (fun h => ?_) (fun h => ?_) | refine br_split (fun h => ?_) (fun h => ?_))
              all_goals first | rfl | contradiction | (exfalso; omega) | (exfalso; (try simp only [true_and, and_true, true_or, not_tr, decide_eq_true_eq, Bool.and_eq_true] at *); omega) | fail "LEAF"
            · split at hE
              · rw [hN hE (by decide), hE]
                clear hE hN hY
                repeat' (first | refine br_splitE (fun h => ?_) (fun h => ?_) | refine br_splitP (fun h => ?_) (fun h => ?_) | refine br_splitA (fun h => ?_) (fun h => ?_) | refine br_split (fun h => ?_) (fun h => ?_))
                all_goals first | rfl | contradiction | (exfalso; omega) | (exfalso; (try simp only [true_and, and_true, true_or, not_tr, decide_eq_true_eq, Bool.and_eq_true] at *); omega) | fail "LEAF"
              · split at hE
                · rw [hN hE (by decide), hE]
                  clear hE hN hY
                  repeat' (first | refine br_splitE (fun h => ?_) (fun h => ?_) | refine br_splitP (fun h => ?_) (fun h => ?_) | refine br_splitA (fun h => ?_) (fun h => ?_) | refine br_split (fun h => ?_) (fun h => ?_))
                  all_goals first | rfl | contradiction | (exfalso; omega) | (exfalso; (try simp only [true_and, and_true, true_or, not_tr, decide_eq_true_eq, Bool.and_eq_true] at *); omega) | fail "LEAF"
                · rw [hY hE, hE]
                  clear hE hN hY
                  subst hp
                  repeat' (first | refine br_splitE (fun h => ?_) (fun h => ?_) | refine br_splitP (fun h => ?_) (fun h => ?_) | refine br_splitA (fun h => ?_) (fun h => ?_) | refine br_split (fun h => ?_) (fun h => ?_))
                  all_goals first | rfl | contradiction | (exfalso; omega) | (exfalso; (try simp only [true_and, and_true, true_or, not_tr, decide_eq_true_eq, Bool.and_eq_true] at *); omega) | fail "LEAF"
          · simp only [hp, if_false, true_and, true_or] at hE
            have hp1 : party = 1 := by omega
            split at hE
            · rw [hN hE (by decide), hE]
              clear hE hN hY
              repeat' (first | refine br_splitE (fun h => ?_) (fun h => ?_) | refine br_splitP (fun h => ?_) (fun h => ?_) | refine br_splitA (fun h => ?_) (fun h => ?_) | refine br_split (fun h => ?_) (fun h => ?_))
              all_goals first | rfl | contradiction | (exfalso; omega) | (exfalso; (try simp only [true_and, and_true, true_or, not_tr, decide_eq_true_eq, Bool.and_eq_true] at *); omega) | fail "LEAF"
            · split at hE
              · rw [hN hE (by decide), hE]
                clear hE hN hY
                repeat' (first | refine br_splitE (fun h => ?_) (fun h => ?_) | refine br_splitP (fun h => ?_) (fun h => ?_) | refine br_splitA (fun h => ?_) (fun h => ?_) | refine br_split (fun h => ?_) (fun h => ?_))
                all_goals first | rfl | contradiction | (exfalso; omega) | (exfalso; (try simp only [true_and, and_true, true_or, not_tr, decide_eq_true_eq, Bool.and_eq_true] at *); omega) | fail "LEAF"
              · split at hE
                · rw [hN hE (by decide), hE]
                  clear hE hN hY
                  repeat' (first | refine br_splitE (fun h => ?_) (fun h => ?_) | refine br_splitP (fun h => ?_) (fun h => ?_) | refine br_splitA (fun h => ?_) (fun h => ?_) | refine br_split (fun h => ?_) (fun h => ?_))
                  all_goals first | rfl | contradiction | (exfalso; omega) | (exfalso; (try simp only [true_and, and_true, true_or, not_tr, decide_eq_true_eq, Bool.and_eq_true] at *); omega) | fail "LEAF"
                · rw [hY hE, hE]
                  clear hE hN hY
                  subst hp1
                  repeat' (first | refine br_splitE (fun h => ?_) (fun h => ?_) | refine br_splitP (fun h => ?_) (fun h => ?_) | refine br_splitA (fun h => ?_) (fun h => ?_) | refine br_split (fun h => ?_) (fun h => ?_))
                  all_goals first | rfl | contradiction | (exfalso; omega) | (exfalso; (try simp only [true_and, and_true, true_or, not_tr, decide_eq_true_eq, Bool.and_eq_true] at *); omega) | fail "LEAF"
        · rw [(ap_at hg hx ha).1, (ap_at hg hx ha).2, show (atE ⟨an, ev, de, ex, cl, st, day, due, xd, e0, e1, aw⟩ xday != 0) = true by simpa using ha]
          rfl
      · rw [chk0 hg, show evtB ⟨7, xday, party, cents, days⟩ = false from decide_eq_false hx, (ap_bad (.inr hx)).1, (ap_bad (.inr hx)).2]
        rfl
    · rw [chk8 hg, (ap_bad (.inl hg)).1, (ap_bad (.inl hg)).2]
      rfl
  · cases h
theorem den_tapf : Den Try.prog 21 FapF := evF_den C9f_ok fun ds rs h => by
  unfold FapF at h
  split at h
  · rename_i an ev de ex cl st day due xd e0 e1 aw k xday party cents days
    simp only [Option.some.injEq, Prod.mk.injEq, Bool.and_eq_true, decide_eq_true_eq] at h
    obtain ⟨⟨h1, h2⟩, rfl⟩ := h
    refine (tapf ⟨an, ev, de, ex, cl, st, day, due, xd, e0, e1, aw⟩ k xday party cents days).trans ?_
    dsimp only
    have hx : ¬ evtP ⟨k, xday, party, cents, days⟩ := by simp only [evtP]; omega
    rw [h1, (ap_bad (.inr hx)).1, (ap_bad (.inr hx)).2, decide_eq_true h2]
    cases (chkE ⟨an, ev, de, ex, cl, st, day, due, xd, e0, e1, aw⟩ != 0) <;> rfl
  · cases h
theorem den_tap : Den Try.prog 21 Fap := Den.cover fun ds rs h => by
  unfold Fap at h
  split at h
  · rename_i an ev de ex cl st day due xd e0 e1 aw k xday party cents days
    simp only [Option.some.injEq, Prod.mk.injEq] at h
    obtain ⟨h1, rfl⟩ := h
    by_cases h2 : k < 1 ∨ k > 7
    · exact ⟨FapF, den_tapf, by unfold FapF; simp only [h1, decide_eq_true h2, Bool.and_self]⟩
    · have h3 : k = 1 ∨ k = 2 ∨ k = 3 ∨ k = 4 ∨ k = 5 ∨ k = 6 ∨ k = 7 := by omega
      rcases h3 with h3 | h3 | h3 | h3 | h3 | h3 | h3
      · exact ⟨FapK 1, den_tap1, by unfold FapK; simp only [h1, decide_eq_true h3, Bool.and_self]⟩
      · exact ⟨FapK 2, den_tap2, by unfold FapK; simp only [h1, decide_eq_true h3, Bool.and_self]⟩
      · exact ⟨FapK 3, den_tap3, by unfold FapK; simp only [h1, decide_eq_true h3, Bool.and_self]⟩
      · exact ⟨FapK 4, den_tap4, by unfold FapK; simp only [h1, decide_eq_true h3, Bool.and_self]⟩
      · exact ⟨FapK 5, den_tap5, by unfold FapK; simp only [h1, decide_eq_true h3, Bool.and_self]⟩
      · exact ⟨FapK 6, den_tap6, by unfold FapK; simp only [h1, decide_eq_true h3, Bool.and_self]⟩
      · exact ⟨FapK 7, den_tap7, by unfold FapK; simp only [h1, decide_eq_true h3, Bool.and_self]⟩
  · cases h
set_option maxHeartbeats 4000000 in
theorem den_tar1 : Den Try.prog 22 (FapK 1) := evF_den C9_ok fun ds rs h => by
  unfold FapK at h
  split at h
  · rename_i an ev de ex cl st day due xd e0 e1 aw k xday party cents days
    simp only [Option.some.injEq, Prod.mk.injEq, Bool.and_eq_true, decide_eq_true_eq] at h
    obtain ⟨⟨h1, rfl⟩, rfl⟩ := h
    refine (tar1 ⟨an, ev, de, ex, cl, st, day, due, xd, e0, e1, aw⟩ xday party cents days).trans ?_
    dsimp only
    rw [h1]
    by_cases hg : goodC ⟨an, ev, de, ex, cl, st, day, due, xd, e0, e1, aw⟩
    · by_cases hx : evtP ⟨1, xday, party, cents, days⟩
      · rw [chk0 hg, show evtB ⟨1, xday, party, cents, days⟩ = true from decide_eq_true hx]
        by_cases ha : atE ⟨an, ev, de, ex, cl, st, day, due, xd, e0, e1, aw⟩ xday = 0
        · obtain ⟨_, f1, f2, f3, f4, f5, f6, f7, f8⟩ := at_good ha
          have hE := ap_go hg hx ha
          have hN := @ap_no ⟨an, ev, de, ex, cl, st, day, due, xd, e0, e1, aw⟩ ⟨1, xday, party, cents, days⟩
          have hY := @ap_yes ⟨an, ev, de, ex, cl, st, day, due, xd, e0, e1, aw⟩ ⟨1, xday, party, cents, days⟩
          rw [ha]
          generalize apE ⟨an, ev, de, ex, cl, st, day, due, xd, e0, e1, aw⟩ ⟨1, xday, party, cents, days⟩ = E at *
          generalize apC ⟨an, ev, de, ex, cl, st, day, due, xd, e0, e1, aw⟩ ⟨1, xday, party, cents, days⟩ = R at *
          dsimp only at hE hN hY f1 f2 f3 f4 f5 f6 f7 f8
          generalize atC ⟨an, ev, de, ex, cl, st, day, due, xd, e0, e1, aw⟩ xday = q at *
          clear hg ha h1 f2 f3 f4 f5 f6
          simp only [goodC, termsP] at f1
          simp only [evtP, true_and, true_or, or_true] at hx
          obtain ⟨⟨g1, g2⟩, ⟨g3, g4⟩, ⟨g5, g6⟩, g7⟩ := f1.1
          obtain ⟨g8, g9, g10, g11, g12, g13, g14, g15⟩ := f1.2
          clear f1 g15
          (try rw [show IntKind.i64.wrap (xday + q.ev) = xday + q.ev from wrap64 (by omega) (by omega)])
          have hA' : allP 1 q.st ↔ q.st = 1 := by unfold allP liveP; omega
          have hb : allB 1 q.st = decide (allP 1 q.st) := rfl
          (try rw [hb])
          simp only [hA'] at hE ⊢
          clear hA' hb
          simp only [evid] at hE
          by_cases hp : party = 0
          · simp only [hp, if_true, true_and, true_or] at hE
            split at hE
            · rw [hN hE (by decide), hE]
              clear hE hN hY
              repeat' (first | refine br_splitE (fun h => ?_) (fun h => ?_) | refine br_splitP (fun h => ?_) (fun h => ?_) | refine br_splitA (fun h => ?_) (fun h => ?_) | refine br_split (fun h => ?_) (fun h => ?_))
              all_goals first | rfl | contradiction | (exfalso; omega) | (exfalso; (try simp only [true_and, and_true, true_or, not_tr, decide_eq_true_eq, Bool.and_eq_true] at *); omega) | fail "LEAF"
            · split at hE
              · rw [hN hE (by decide), hE]
                clear hE hN hY
                repeat' (first | refine br_splitE (fun h => ?_) (fun h => ?_) | refine br_splitP (fun h => ?_) (fun h => ?_) | refine br_splitA (fun h => ?_) (fun h => ?_) | refine br_split (fun h => ?_) (fun h => ?_))
                all_goals first | rfl | contradiction | (exfalso; omega) | (exfalso; (try simp only [true_and, and_true, true_or, not_tr, decide_eq_true_eq, Bool.and_eq_true] at *); omega) | fail "LEAF"
              · split at hE
                · rw [hN hE (by decide), hE]
                  clear hE hN hY
                  repeat' (first | refine br_splitE (fun h => ?_) (fun h => ?_) | refine br_splitP (fun h => ?_) (fun h => ?_) | refine br_splitA (fun h => ?_) (fun h => ?_) | refine br_split (fun h => ?_) (fun h => ?_))
                  all_goals first | rfl | contradiction | (exfalso; omega) | (exfalso; (try simp only [true_and, and_true, true_or, not_tr, decide_eq_true_eq, Bool.and_eq_true] at *); omega) | fail "LEAF"
                · rw [hY hE, hE]
                  clear hE hN hY
                  subst hp
                  repeat' (first | refine br_splitE (fun h => ?_) (fun h => ?_) | refine br_splitP (fun h => ?_) (fun h => ?_) | refine br_splitA (fun h => ?_) (fun h => ?_) | refine br_split (fun h => ?_) (fun h => ?_))
                  all_goals first | rfl | contradiction | (exfalso; omega) | (exfalso; (try simp only [true_and, and_true, true_or, not_tr, decide_eq_true_eq, Bool.and_eq_true] at *); omega) | fail "LEAF"
          · simp only [hp, if_false, true_and, true_or] at hE
            have hp1 : party = 1 := by omega
            split at hE
            · rw [hN hE (by decide), hE]
              clear hE hN hY
              repeat' (first | refine br_splitE (fun h => ?_) (fun h => ?_) | refine br_splitP (fun h => ?_) (fun h => ?_) | refine br_splitA (fun h => ?_) (fun h => ?_) | refine br_split (fun h => ?_) (fun h => ?_))
              all_goals first | rfl | contradiction | (exfalso; omega) | (exfalso; (try simp only [true_and, and_true, true_or, not_tr, decide_eq_true_eq, Bool.and_eq_true] at *); omega) | fail "LEAF"
            · split at hE
              · rw [hN hE (by decide), hE]
                clear hE hN hY
                repeat' (first | refine br_splitE (fun h => ?_) (fun h => ?_) | refine br_splitP (fun h => ?_) (fun h => ?_) | refine br_splitA (fun h => ?_) (fun h => ?_) | refine br_split (fun h => ?_) (fun h => ?_))
                all_goals first | rfl | contradiction | (exfalso; omega) | (exfalso; (try simp only [true_and, and_true, true_or, not_tr, decide_eq_true_eq, Bool.and_eq_true] at *); omega) | fail "LEAF"
              · split at hE
                · rw [hN hE (by decide), hE]
                  clear hE hN hY
                  repeat' (first | refine br_splitE (fun h => ?_) (fun h => ?_) | refine br_splitP (fun h => ?_) (fun h => ?_) | refine br_splitA (fun h => ?_) (fun h => ?_) | refine br_split (fun h => ?_) (fun h => ?_))
                  all_goals first | rfl | contradiction | (exfalso; omega) | (exfalso; (try simp only [true_and, and_true, true_or, not_tr, decide_eq_true_eq, Bool.and_eq_true] at *); omega) | fail "LEAF"
                · rw [hY hE, hE]
                  clear hE hN hY
                  subst hp1
                  repeat' (first | refine br_splitE (fun h => ?_) (fun h => ?_) | refine br_splitP (fun h => ?_) (fun h => ?_) | refine br_splitA (fun h => ?_) (fun h => ?_) | refine br_split (fun h => ?_) (fun h => ?_))
                  all_goals first | rfl | contradiction | (exfalso; omega) | (exfalso; (try simp only [true_and, and_true, true_or, not_tr, decide_eq_true_eq, Bool.and_eq_true] at *); omega) | fail "LEAF"
        · rw [(ap_at hg hx ha).1, (ap_at hg hx ha).2, show (atE ⟨an, ev, de, ex, cl, st, day, due, xd, e0, e1, aw⟩ xday != 0) = true by simpa using ha]
          rfl
      · rw [chk0 hg, show evtB ⟨1, xday, party, cents, days⟩ = false from decide_eq_false hx, (ap_bad (.inr hx)).1, (ap_bad (.inr hx)).2]
        rfl
    · rw [chk8 hg, (ap_bad (.inl hg)).1, (ap_bad (.inl hg)).2]
      rfl
  · cases h
set_option maxHeartbeats 4000000 in
theorem den_tar2 : Den Try.prog 22 (FapK 2) := evF_den C9_ok fun ds rs h => by
  unfold FapK at h
  split at h
  · rename_i an ev de ex cl st day due xd e0 e1 aw k xday party cents days
    simp only [Option.some.injEq, Prod.mk.injEq, Bool.and_eq_true, decide_eq_true_eq] at h
    obtain ⟨⟨h1, rfl⟩, rfl⟩ := h
    refine (tar2 ⟨an, ev, de, ex, cl, st, day, due, xd, e0, e1, aw⟩ xday party cents days).trans ?_
    dsimp only
    rw [h1]
    by_cases hg : goodC ⟨an, ev, de, ex, cl, st, day, due, xd, e0, e1, aw⟩
    · by_cases hx : evtP ⟨2, xday, party, cents, days⟩
      · rw [chk0 hg, show evtB ⟨2, xday, party, cents, days⟩ = true from decide_eq_true hx]
        by_cases ha : atE ⟨an, ev, de, ex, cl, st, day, due, xd, e0, e1, aw⟩ xday = 0
        · obtain ⟨_, f1, f2, f3, f4, f5, f6, f7, f8⟩ := at_good ha
          have hE := ap_go hg hx ha
          have hN := @ap_no ⟨an, ev, de, ex, cl, st, day, due, xd, e0, e1, aw⟩ ⟨2, xday, party, cents, days⟩
          have hY := @ap_yes ⟨an, ev, de, ex, cl, st, day, due, xd, e0, e1, aw⟩ ⟨2, xday, party, cents, days⟩
          rw [ha]
          generalize apE ⟨an, ev, de, ex, cl, st, day, due, xd, e0, e1, aw⟩ ⟨2, xday, party, cents, days⟩ = E at *
          generalize apC ⟨an, ev, de, ex, cl, st, day, due, xd, e0, e1, aw⟩ ⟨2, xday, party, cents, days⟩ = R at *
          dsimp only at hE hN hY f1 f2 f3 f4 f5 f6 f7 f8
          generalize atC ⟨an, ev, de, ex, cl, st, day, due, xd, e0, e1, aw⟩ xday = q at *
          clear hg ha h1 f2 f3 f4 f5 f6
          simp only [goodC, termsP] at f1
          simp only [evtP, true_and, true_or, or_true] at hx
          obtain ⟨⟨g1, g2⟩, ⟨g3, g4⟩, ⟨g5, g6⟩, g7⟩ := f1.1
          obtain ⟨g8, g9, g10, g11, g12, g13, g14, g15⟩ := f1.2
          clear f1 g15
          (try rw [show IntKind.i64.wrap (q.e0 + 1) = q.e0 + 1 from wrap64 (by omega) (by omega)])
          (try rw [show IntKind.i64.wrap (q.e1 + 1) = q.e1 + 1 from wrap64 (by omega) (by omega)])
          have hA' : allP 2 q.st ↔ q.st = 2 := by unfold allP liveP; omega
          have hb : allB 2 q.st = decide (allP 2 q.st) := rfl
          (try rw [hb])
          simp only [hA'] at hE ⊢
          clear hA' hb
          simp only [evid] at hE
          by_cases hp : party = 0
          · simp only [hp, if_true, true_and, true_or] at hE
            split at hE
            · rw [hN hE (by decide), hE]
              clear hE hN hY
              repeat' (first | refine br_splitE (fun h => ?_) (fun h => ?_) | refine br_splitP (fun h => ?_) (fun h => ?_) | refine br_splitA (fun h => ?_) (fun h => ?_) | refine br_split (fun h => ?_) (fun h => ?_))
              all_goals first | rfl | contradiction | (exfalso; omega) | (exfalso; (try simp only [true_and, and_true, true_or, not_tr, decide_eq_true_eq, Bool.and_eq_true] at *); omega) | fail "LEAF"
            · split at hE
              · rw [hN hE (by decide), hE]
                clear hE hN hY
                repeat' (first | refine br_splitE (fun h => ?_) (fun h => ?_) | refine br_splitP (fun h => ?_) (fun h => ?_) | refine br_splitA (fun h => ?_) (fun h => ?_) | refine br_split (fun h => ?_) (fun h => ?_))
                all_goals first | rfl | contradiction | (exfalso; omega) | (exfalso; (try simp only [true_and, and_true, true_or, not_tr, decide_eq_true_eq, Bool.and_eq_true] at *); omega) | fail "LEAF"
              · split at hE
                · rw [hN hE (by decide), hE]
                  clear hE hN hY
                  repeat' (first | refine br_splitE (fun h => ?_) (fun h => ?_) | refine br_splitP (fun h => ?_) (fun h => ?_) | refine br_splitA (fun h => ?_) (fun h => ?_) | refine br_split (fun h => ?_) (fun h => ?_))
                  all_goals first | rfl | contradiction | (exfalso; omega) | (exfalso; (try simp only [true_and, and_true, true_or, not_tr, decide_eq_true_eq, Bool.and_eq_true] at *); omega) | fail "LEAF"
                · rw [hY hE, hE]
                  clear hE hN hY
                  subst hp
                  repeat' (first | refine br_splitE (fun h => ?_) (fun h => ?_) | refine br_splitP (fun h => ?_) (fun h => ?_) | refine br_splitA (fun h => ?_) (fun h => ?_) | refine br_split (fun h => ?_) (fun h => ?_))
                  all_goals first | rfl | contradiction | (exfalso; omega) | (exfalso; (try simp only [true_and, and_true, true_or, not_tr, decide_eq_true_eq, Bool.and_eq_true] at *); omega) | fail "LEAF"
          · simp only [hp, if_false, true_and, true_or] at hE
            have hp1 : party = 1 := by omega
            split at hE
            · rw [hN hE (by decide), hE]
              clear hE hN hY
              repeat' (first | refine br_splitE (fun h => ?_) (fun h => ?_) | refine br_splitP (fun h => ?_) (fun h => ?_) | refine br_splitA (fun h => ?_) (fun h => ?_) | refine br_split (fun h => ?_) (fun h => ?_))
              all_goals first | rfl | contradiction | (exfalso; omega) | (exfalso; (try simp only [true_and, and_true, true_or, not_tr, decide_eq_true_eq, Bool.and_eq_true] at *); omega) | fail "LEAF"
            · split at hE
              · rw [hN hE (by decide), hE]
                clear hE hN hY
                repeat' (first | refine br_splitE (fun h => ?_) (fun h => ?_) | refine br_splitP (fun h => ?_) (fun h => ?_) | refine br_splitA (fun h => ?_) (fun h => ?_) | refine br_split (fun h => ?_) (fun h => ?_))
                all_goals first | rfl | contradiction | (exfalso; omega) | (exfalso; (try simp only [true_and, and_true, true_or, not_tr, decide_eq_true_eq, Bool.and_eq_true] at *); omega) | fail "LEAF"
              · split at hE
                · rw [hN hE (by decide), hE]
                  clear hE hN hY
                  repeat' (first | refine br_splitE (fun h => ?_) (fun h => ?_) | refine br_splitP (fun h => ?_) (fun h => ?_) | refine br_splitA (fun h => ?_) (fun h => ?_) | refine br_split (fun h => ?_) (fun h => ?_))
                  all_goals first | rfl | contradiction | (exfalso; omega) | (exfalso; (try simp only [true_and, and_true, true_or, not_tr, decide_eq_true_eq, Bool.and_eq_true] at *); omega) | fail "LEAF"
                · rw [hY hE, hE]
                  clear hE hN hY
                  subst hp1
                  repeat' (first | refine br_splitE (fun h => ?_) (fun h => ?_) | refine br_splitP (fun h => ?_) (fun h => ?_) | refine br_splitA (fun h => ?_) (fun h => ?_) | refine br_split (fun h => ?_) (fun h => ?_))
                  all_goals first | rfl | contradiction | (exfalso; omega) | (exfalso; (try simp only [true_and, and_true, true_or, not_tr, decide_eq_true_eq, Bool.and_eq_true] at *); omega) | fail "LEAF"
        · rw [(ap_at hg hx ha).1, (ap_at hg hx ha).2, show (atE ⟨an, ev, de, ex, cl, st, day, due, xd, e0, e1, aw⟩ xday != 0) = true by simpa using ha]
          rfl
      · rw [chk0 hg, show evtB ⟨2, xday, party, cents, days⟩ = false from decide_eq_false hx, (ap_bad (.inr hx)).1, (ap_bad (.inr hx)).2]
        rfl
    · rw [chk8 hg, (ap_bad (.inl hg)).1, (ap_bad (.inl hg)).2]
      rfl
  · cases h
set_option maxHeartbeats 4000000 in
theorem den_tar3 : Den Try.prog 22 (FapK 3) := evF_den C9_ok fun ds rs h => by
  unfold FapK at h
  split at h
  · rename_i an ev de ex cl st day due xd e0 e1 aw k xday party cents days
    simp only [Option.some.injEq, Prod.mk.injEq, Bool.and_eq_true, decide_eq_true_eq] at h
    obtain ⟨⟨h1, rfl⟩, rfl⟩ := h
    refine (tar3 ⟨an, ev, de, ex, cl, st, day, due, xd, e0, e1, aw⟩ xday party cents days).trans ?_
    dsimp only
    rw [h1]
    by_cases hg : goodC ⟨an, ev, de, ex, cl, st, day, due, xd, e0, e1, aw⟩
    · by_cases hx : evtP ⟨3, xday, party, cents, days⟩
      · rw [chk0 hg, show evtB ⟨3, xday, party, cents, days⟩ = true from decide_eq_true hx]
        by_cases ha : atE ⟨an, ev, de, ex, cl, st, day, due, xd, e0, e1, aw⟩ xday = 0
        · obtain ⟨_, f1, f2, f3, f4, f5, f6, f7, f8⟩ := at_good ha
          have hE := ap_go hg hx ha
          have hN := @ap_no ⟨an, ev, de, ex, cl, st, day, due, xd, e0, e1, aw⟩ ⟨3, xday, party, cents, days⟩
          have hY := @ap_yes ⟨an, ev, de, ex, cl, st, day, due, xd, e0, e1, aw⟩ ⟨3, xday, party, cents, days⟩
          rw [ha]
          generalize apE ⟨an, ev, de, ex, cl, st, day, due, xd, e0, e1, aw⟩ ⟨3, xday, party, cents, days⟩ = E at *
          generalize apC ⟨an, ev, de, ex, cl, st, day, due, xd, e0, e1, aw⟩ ⟨3, xday, party, cents, days⟩ = R at *
          dsimp only at hE hN hY f1 f2 f3 f4 f5 f6 f7 f8
          generalize atC ⟨an, ev, de, ex, cl, st, day, due, xd, e0, e1, aw⟩ xday = q at *
          clear hg ha h1 f2 f3 f4 f5 f6
          simp only [goodC, termsP] at f1
          simp only [evtP, true_and, true_or, or_true] at hx
          obtain ⟨⟨g1, g2⟩, ⟨g3, g4⟩, ⟨g5, g6⟩, g7⟩ := f1.1
          obtain ⟨g8, g9, g10, g11, g12, g13, g14, g15⟩ := f1.2
          clear f1 g15
          (try rw [show IntKind.i64.wrap (xday + q.de) = xday + q.de from wrap64 (by omega) (by omega)])
          have hA' : allP 3 q.st ↔ q.st = 2 := by unfold allP liveP; omega
          have hb : allB 3 q.st = decide (allP 3 q.st) := rfl
          (try rw [hb])
          simp only [hA'] at hE ⊢
          clear hA' hb
          simp only [evid] at hE
          by_cases hp : party = 0
          · simp only [hp, if_true, true_and, true_or] at hE
            split at hE
            · rw [hN hE (by decide), hE]
              clear hE hN hY
              repeat' (first | refine br_splitE (fun h => ?_) (fun h => ?_) | refine br_splitP (fun h => ?_) (fun h => ?_) | refine br_splitA (fun h => ?_) (fun h => ?_) | refine br_split (fun h => ?_) (fun h => ?_))
              all_goals first | rfl | contradiction | (exfalso; omega) | (exfalso; (try simp only [true_and, and_true, true_or, not_tr, decide_eq_true_eq, Bool.and_eq_true] at *); omega) | fail "LEAF"
            · split at hE
              · rw [hN hE (by decide), hE]
                clear hE hN hY
                repeat' (first | refine br_splitE (fun h => ?_) (fun h => ?_) | refine br_splitP (fun h => ?_) (fun h => ?_) | refine br_splitA (fun h => ?_) (fun h => ?_) | refine br_split (fun h => ?_) (fun h => ?_))
                all_goals first | rfl | contradiction | (exfalso; omega) | (exfalso; (try simp only [true_and, and_true, true_or, not_tr, decide_eq_true_eq, Bool.and_eq_true] at *); omega) | fail "LEAF"
              · split at hE
                · rw [hN hE (by decide), hE]
                  clear hE hN hY
                  repeat' (first | refine br_splitE (fun h => ?_) (fun h => ?_) | refine br_splitP (fun h => ?_) (fun h => ?_) | refine br_splitA (fun h => ?_) (fun h => ?_) | refine br_split (fun h => ?_) (fun h => ?_))
                  all_goals first | rfl | contradiction | (exfalso; omega) | (exfalso; (try simp only [true_and, and_true, true_or, not_tr, decide_eq_true_eq, Bool.and_eq_true] at *); omega) | fail "LEAF"
                · rw [hY hE, hE]
                  clear hE hN hY
                  subst hp
                  repeat' (first | refine br_splitE (fun h => ?_) (fun h => ?_) | refine br_splitP (fun h => ?_) (fun h => ?_) | refine br_splitA (fun h => ?_) (fun h => ?_) | refine br_split (fun h => ?_) (fun h => ?_))
                  all_goals first | rfl | contradiction | (exfalso; omega) | (exfalso; (try simp only [true_and, and_true, true_or, not_tr, decide_eq_true_eq, Bool.and_eq_true] at *); omega) | fail "LEAF"
          · simp only [hp, if_false, true_and, true_or] at hE
            have hp1 : party = 1 := by omega
            split at hE
            · rw [hN hE (by decide), hE]
              clear hE hN hY
              repeat' (first | refine br_splitE (fun h => ?_) (fun h => ?_) | refine br_splitP (fun h => ?_) (fun h => ?_) | refine br_splitA (fun h => ?_) (fun h => ?_) | refine br_split (fun h => ?_) (fun h => ?_))
              all_goals first | rfl | contradiction | (exfalso; omega) | (exfalso; (try simp only [true_and, and_true, true_or, not_tr, decide_eq_true_eq, Bool.and_eq_true] at *); omega) | fail "LEAF"
            · split at hE
              · rw [hN hE (by decide), hE]
                clear hE hN hY
                repeat' (first | refine br_splitE (fun h => ?_) (fun h => ?_) | refine br_splitP (fun h => ?_) (fun h => ?_) | refine br_splitA (fun h => ?_) (fun h => ?_) | refine br_split (fun h => ?_) (fun h => ?_))
                all_goals first | rfl | contradiction | (exfalso; omega) | (exfalso; (try simp only [true_and, and_true, true_or, not_tr, decide_eq_true_eq, Bool.and_eq_true] at *); omega) | fail "LEAF"
              · split at hE
                · rw [hN hE (by decide), hE]
                  clear hE hN hY
                  repeat' (first | refine br_splitE (fun h => ?_) (fun h => ?_) | refine br_splitP (fun h => ?_) (fun h => ?_) | refine br_splitA (fun h => ?_) (fun h => ?_) | refine br_split (fun h => ?_) (fun h => ?_))
                  all_goals first | rfl | contradiction | (exfalso; omega) | (exfalso; (try simp only [true_and, and_true, true_or, not_tr, decide_eq_true_eq, Bool.and_eq_true] at *); omega) | fail "LEAF"
                · rw [hY hE, hE]
                  clear hE hN hY
                  subst hp1
                  repeat' (first | refine br_splitE (fun h => ?_) (fun h => ?_) | refine br_splitP (fun h => ?_) (fun h => ?_) | refine br_splitA (fun h => ?_) (fun h => ?_) | refine br_split (fun h => ?_) (fun h => ?_))
                  all_goals first | rfl | contradiction | (exfalso; omega) | (exfalso; (try simp only [true_and, and_true, true_or, not_tr, decide_eq_true_eq, Bool.and_eq_true] at *); omega) | fail "LEAF"
        · rw [(ap_at hg hx ha).1, (ap_at hg hx ha).2, show (atE ⟨an, ev, de, ex, cl, st, day, due, xd, e0, e1, aw⟩ xday != 0) = true by simpa using ha]
          rfl
      · rw [chk0 hg, show evtB ⟨3, xday, party, cents, days⟩ = false from decide_eq_false hx, (ap_bad (.inr hx)).1, (ap_bad (.inr hx)).2]
        rfl
    · rw [chk8 hg, (ap_bad (.inl hg)).1, (ap_bad (.inl hg)).2]
      rfl
  · cases h
set_option maxHeartbeats 4000000 in
theorem den_tar4 : Den Try.prog 22 (FapK 4) := evF_den C9_ok fun ds rs h => by
  unfold FapK at h
  split at h
  · rename_i an ev de ex cl st day due xd e0 e1 aw k xday party cents days
    simp only [Option.some.injEq, Prod.mk.injEq, Bool.and_eq_true, decide_eq_true_eq] at h
    obtain ⟨⟨h1, rfl⟩, rfl⟩ := h
    refine (tar4 ⟨an, ev, de, ex, cl, st, day, due, xd, e0, e1, aw⟩ xday party cents days).trans ?_
    dsimp only
    rw [h1]
    by_cases hg : goodC ⟨an, ev, de, ex, cl, st, day, due, xd, e0, e1, aw⟩
    · by_cases hx : evtP ⟨4, xday, party, cents, days⟩
      · rw [chk0 hg, show evtB ⟨4, xday, party, cents, days⟩ = true from decide_eq_true hx]
        by_cases ha : atE ⟨an, ev, de, ex, cl, st, day, due, xd, e0, e1, aw⟩ xday = 0
        · obtain ⟨_, f1, f2, f3, f4, f5, f6, f7, f8⟩ := at_good ha
          have hE := ap_go hg hx ha
          have hN := @ap_no ⟨an, ev, de, ex, cl, st, day, due, xd, e0, e1, aw⟩ ⟨4, xday, party, cents, days⟩
          have hY := @ap_yes ⟨an, ev, de, ex, cl, st, day, due, xd, e0, e1, aw⟩ ⟨4, xday, party, cents, days⟩
          rw [ha]
          generalize apE ⟨an, ev, de, ex, cl, st, day, due, xd, e0, e1, aw⟩ ⟨4, xday, party, cents, days⟩ = E at *
          generalize apC ⟨an, ev, de, ex, cl, st, day, due, xd, e0, e1, aw⟩ ⟨4, xday, party, cents, days⟩ = R at *
          dsimp only at hE hN hY f1 f2 f3 f4 f5 f6 f7 f8
          generalize atC ⟨an, ev, de, ex, cl, st, day, due, xd, e0, e1, aw⟩ xday = q at *
          clear hg ha h1 f2 f3 f4 f5 f6
          simp only [goodC, termsP] at f1
          simp only [evtP, true_and, true_or, or_true] at hx
          obtain ⟨⟨g1, g2⟩, ⟨g3, g4⟩, ⟨g5, g6⟩, g7⟩ := f1.1
          obtain ⟨g8, g9, g10, g11, g12, g13, g14, g15⟩ := f1.2
          clear f1 g15
          have hA' : allP 4 q.st ↔ q.st = 3 := by unfold allP liveP; omega
          have hb : allB 4 q.st = decide (allP 4 q.st) := rfl
          (try rw [hb])
          simp only [hA'] at hE ⊢
          clear hA' hb
          simp only [evid] at hE
          by_cases hp : party = 0
          · simp only [hp, if_true, true_and, true_or] at hE
            split at hE
            · rw [hN hE (by decide), hE]
              clear hE hN hY
              repeat' (first | refine br_splitE (fun h => ?_) (fun h => ?_) | refine br_splitP (fun h => ?_) (fun h => ?_) | refine br_splitA (fun h => ?_) (fun h => ?_) | refine br_split (fun h => ?_) (fun h => ?_))
              all_goals first | rfl | contradiction | (exfalso; omega) | (exfalso; (try simp only [true_and, and_true, true_or, not_tr, decide_eq_true_eq, Bool.and_eq_true] at *); omega) | fail "LEAF"
            · split at hE
              · rw [hN hE (by decide), hE]
                clear hE hN hY
                repeat' (first | refine br_splitE (fun h => ?_) (fun h => ?_) | refine br_splitP (fun h => ?_) (fun h => ?_) | refine br_splitA (fun h => ?_) (fun h => ?_) | refine br_split (fun h => ?_) (fun h => ?_))
                all_goals first | rfl | contradiction | (exfalso; omega) | (exfalso; (try simp only [true_and, and_true, true_or, not_tr, decide_eq_true_eq, Bool.and_eq_true] at *); omega) | fail "LEAF"
              · split at hE
                · rw [hN hE (by decide), hE]
                  clear hE hN hY
                  repeat' (first | refine br_splitE (fun h => ?_) (fun h => ?_) | refine br_splitP (fun h => ?_) (fun h => ?_) | refine br_splitA (fun h => ?_) (fun h => ?_) | refine br_split (fun h => ?_) (fun h => ?_))
                  all_goals first | rfl | contradiction | (exfalso; omega) | (exfalso; (try simp only [true_and, and_true, true_or, not_tr, decide_eq_true_eq, Bool.and_eq_true] at *); omega) | fail "LEAF"
                · rw [hY hE, hE]
                  clear hE hN hY
                  subst hp
                  repeat' (first | refine br_splitE (fun h => ?_) (fun h => ?_) | refine br_splitP (fun h => ?_) (fun h => ?_) | refine br_splitA (fun h => ?_) (fun h => ?_) | refine br_split (fun h => ?_) (fun h => ?_))
                  all_goals first | rfl | contradiction | (exfalso; omega) | (exfalso; (try simp only [true_and, and_true, true_or, not_tr, decide_eq_true_eq, Bool.and_eq_true] at *); omega) | fail "LEAF"
          · simp only [hp, if_false, true_and, true_or] at hE
            have hp1 : party = 1 := by omega
            split at hE
            · rw [hN hE (by decide), hE]
              clear hE hN hY
              repeat' (first | refine br_splitE (fun h => ?_) (fun h => ?_) | refine br_splitP (fun h => ?_) (fun h => ?_) | refine br_splitA (fun h => ?_) (fun h => ?_) | refine br_split (fun h => ?_) (fun h => ?_))
              all_goals first | rfl | contradiction | (exfalso; omega) | (exfalso; (try simp only [true_and, and_true, true_or, not_tr, decide_eq_true_eq, Bool.and_eq_true] at *); omega) | fail "LEAF"
            · split at hE
              · rw [hN hE (by decide), hE]
                clear hE hN hY
                repeat' (first | refine br_splitE (fun h => ?_) (fun h => ?_) | refine br_splitP (fun h => ?_) (fun h => ?_) | refine br_splitA (fun h => ?_) (fun h => ?_) | refine br_split (fun h => ?_) (fun h => ?_))
                all_goals first | rfl | contradiction | (exfalso; omega) | (exfalso; (try simp only [true_and, and_true, true_or, not_tr, decide_eq_true_eq, Bool.and_eq_true] at *); omega) | fail "LEAF"
              · split at hE
                · rw [hN hE (by decide), hE]
                  clear hE hN hY
                  repeat' (first | refine br_splitE (fun h => ?_) (fun h => ?_) | refine br_splitP (fun h => ?_) (fun h => ?_) | refine br_splitA (fun h => ?_) (fun h => ?_) | refine br_split (fun h => ?_) (fun h => ?_))
                  all_goals first | rfl | contradiction | (exfalso; omega) | (exfalso; (try simp only [true_and, and_true, true_or, not_tr, decide_eq_true_eq, Bool.and_eq_true] at *); omega) | fail "LEAF"
                · rw [hY hE, hE]
                  clear hE hN hY
                  subst hp1
                  repeat' (first | refine br_splitE (fun h => ?_) (fun h => ?_) | refine br_splitP (fun h => ?_) (fun h => ?_) | refine br_splitA (fun h => ?_) (fun h => ?_) | refine br_split (fun h => ?_) (fun h => ?_))
                  all_goals first | rfl | contradiction | (exfalso; omega) | (exfalso; (try simp only [true_and, and_true, true_or, not_tr, decide_eq_true_eq, Bool.and_eq_true] at *); omega) | fail "LEAF"
        · rw [(ap_at hg hx ha).1, (ap_at hg hx ha).2, show (atE ⟨an, ev, de, ex, cl, st, day, due, xd, e0, e1, aw⟩ xday != 0) = true by simpa using ha]
          rfl
      · rw [chk0 hg, show evtB ⟨4, xday, party, cents, days⟩ = false from decide_eq_false hx, (ap_bad (.inr hx)).1, (ap_bad (.inr hx)).2]
        rfl
    · rw [chk8 hg, (ap_bad (.inl hg)).1, (ap_bad (.inl hg)).2]
      rfl
  · cases h
set_option maxHeartbeats 4000000 in
theorem den_tar5 : Den Try.prog 22 (FapK 5) := evF_den C9_ok fun ds rs h => by
  unfold FapK at h
  split at h
  · rename_i an ev de ex cl st day due xd e0 e1 aw k xday party cents days
    simp only [Option.some.injEq, Prod.mk.injEq, Bool.and_eq_true, decide_eq_true_eq] at h
    obtain ⟨⟨h1, rfl⟩, rfl⟩ := h
    refine (tar5 ⟨an, ev, de, ex, cl, st, day, due, xd, e0, e1, aw⟩ xday party cents days).trans ?_
    dsimp only
    rw [h1]
    by_cases hg : goodC ⟨an, ev, de, ex, cl, st, day, due, xd, e0, e1, aw⟩
    · by_cases hx : evtP ⟨5, xday, party, cents, days⟩
      · rw [chk0 hg, show evtB ⟨5, xday, party, cents, days⟩ = true from decide_eq_true hx]
        by_cases ha : atE ⟨an, ev, de, ex, cl, st, day, due, xd, e0, e1, aw⟩ xday = 0
        · obtain ⟨_, f1, f2, f3, f4, f5, f6, f7, f8⟩ := at_good ha
          have hE := ap_go hg hx ha
          have hN := @ap_no ⟨an, ev, de, ex, cl, st, day, due, xd, e0, e1, aw⟩ ⟨5, xday, party, cents, days⟩
          have hY := @ap_yes ⟨an, ev, de, ex, cl, st, day, due, xd, e0, e1, aw⟩ ⟨5, xday, party, cents, days⟩
          rw [ha]
          generalize apE ⟨an, ev, de, ex, cl, st, day, due, xd, e0, e1, aw⟩ ⟨5, xday, party, cents, days⟩ = E at *
          generalize apC ⟨an, ev, de, ex, cl, st, day, due, xd, e0, e1, aw⟩ ⟨5, xday, party, cents, days⟩ = R at *
          dsimp only at hE hN hY f1 f2 f3 f4 f5 f6 f7 f8
          generalize atC ⟨an, ev, de, ex, cl, st, day, due, xd, e0, e1, aw⟩ xday = q at *
          clear hg ha h1 f2 f3 f4 f5 f6
          simp only [goodC, termsP] at f1
          simp only [evtP, true_and, true_or, or_true] at hx
          obtain ⟨⟨g1, g2⟩, ⟨g3, g4⟩, ⟨g5, g6⟩, g7⟩ := f1.1
          obtain ⟨g8, g9, g10, g11, g12, g13, g14, g15⟩ := f1.2
          clear f1 g15
          have hA' : allP 5 q.st ↔ (q.st = 1 ∨ q.st = 2 ∨ q.st = 3) := by unfold allP liveP; omega
          have hb : allB 5 q.st = decide (allP 5 q.st) := rfl
          (try rw [hb])
          simp only [hA'] at hE ⊢
          clear hA' hb
          simp only [evid] at hE
          by_cases hp : party = 0
          · simp only [hp, if_true, true_and, true_or] at hE
            split at hE
            · rw [hN hE (by decide), hE]
              clear hE hN hY
              repeat' (first | refine br_splitE (fun h => ?_) (fun h => ?_) | refine br_splitP (fun h => ?_) (fun h => ?_) | refine br_splitA (fun h => ?_) (fun h => ?_) | refine br_split (fun h => ?_) (fun h => ?_))
              all_goals first | rfl | contradiction | (exfalso; omega) | (exfalso; (try simp only [true_and, and_true, true_or, not_tr, decide_eq_true_eq, Bool.and_eq_true] at *); omega) | fail "LEAF"
            · split at hE
              · rw [hN hE (by decide), hE]
                clear hE hN hY
                repeat' (first | refine br_splitE (fun h => ?_) (fun h => ?_) | refine br_splitP (fun h => ?_) (fun h => ?_) | refine br_splitA (fun h => ?_) (fun h => ?_) | refine br_split (fun h => ?_) (fun h => ?_))
                all_goals first | rfl | contradiction | (exfalso; omega) | (exfalso; (try simp only [true_and, and_true, true_or, not_tr, decide_eq_true_eq, Bool.and_eq_true] at *); omega) | fail "LEAF"
              · split at hE
                · rw [hN hE (by decide), hE]
                  clear hE hN hY
                  repeat' (first | refine br_splitE (fun h => ?_) (fun h => ?_) | refine br_splitP (fun h => ?_) (fun h => ?_) | refine br_splitA (fun h => ?_) (fun h => ?_) | refine br_split (fun h => ?_) (fun h => ?_))
                  all_goals first | rfl | contradiction | (exfalso; omega) | (exfalso; (try simp only [true_and, and_true, true_or, not_tr, decide_eq_true_eq, Bool.and_eq_true] at *); omega) | fail "LEAF"
                · rw [hY hE, hE]
                  clear hE hN hY
                  subst hp
                  repeat' (first | refine br_splitE (fun h => ?_) (fun h => ?_) | refine br_splitP (fun h => ?_) (fun h => ?_) | refine br_splitA (fun h => ?_) (fun h => ?_) | refine br_split (fun h => ?_) (fun h => ?_))
                  all_goals first | rfl | contradiction | (exfalso; omega) | (exfalso; (try simp only [true_and, and_true, true_or, not_tr, decide_eq_true_eq, Bool.and_eq_true] at *); omega) | fail "LEAF"
          · simp only [hp, if_false, true_and, true_or] at hE
            have hp1 : party = 1 := by omega
            split at hE
            · rw [hN hE (by decide), hE]
              clear hE hN hY
              repeat' (first | refine br_splitE (fun h => ?_) (fun h => ?_) | refine br_splitP (fun h => ?_) (fun h => ?_) | refine br_splitA (fun h => ?_) (fun h => ?_) | refine br_split (fun h => ?_) (fun h => ?_))
              all_goals first | rfl | contradiction | (exfalso; omega) | (exfalso; (try simp only [true_and, and_true, true_or, not_tr, decide_eq_true_eq, Bool.and_eq_true] at *); omega) | fail "LEAF"
            · split at hE
              · rw [hN hE (by decide), hE]
                clear hE hN hY
                repeat' (first | refine br_splitE (fun h => ?_) (fun h => ?_) | refine br_splitP (fun h => ?_) (fun h => ?_) | refine br_splitA (fun h => ?_) (fun h => ?_) | refine br_split (fun h => ?_) (fun h => ?_))
                all_goals first | rfl | contradiction | (exfalso; omega) | (exfalso; (try simp only [true_and, and_true, true_or, not_tr, decide_eq_true_eq, Bool.and_eq_true] at *); omega) | fail "LEAF"
              · split at hE
                · rw [hN hE (by decide), hE]
                  clear hE hN hY
                  repeat' (first | refine br_splitE (fun h => ?_) (fun h => ?_) | refine br_splitP (fun h => ?_) (fun h => ?_) | refine br_splitA (fun h => ?_) (fun h => ?_) | refine br_split (fun h => ?_) (fun h => ?_))
                  all_goals first | rfl | contradiction | (exfalso; omega) | (exfalso; (try simp only [true_and, and_true, true_or, not_tr, decide_eq_true_eq, Bool.and_eq_true] at *); omega) | fail "LEAF"
                · rw [hY hE, hE]
                  clear hE hN hY
                  subst hp1
                  repeat' (first | refine br_splitE (fun h => ?_) (fun h => ?_) | refine br_splitP (fun h => ?_) (fun h => ?_) | refine br_splitA (fun h => ?_) (fun h => ?_) | refine br_split (fun h => ?_) (fun h => ?_))
                  all_goals first | rfl | contradiction | (exfalso; omega) | (exfalso; (try simp only [true_and, and_true, true_or, not_tr, decide_eq_true_eq, Bool.and_eq_true] at *); omega) | fail "LEAF"
        · rw [(ap_at hg hx ha).1, (ap_at hg hx ha).2, show (atE ⟨an, ev, de, ex, cl, st, day, due, xd, e0, e1, aw⟩ xday != 0) = true by simpa using ha]
          rfl
      · rw [chk0 hg, show evtB ⟨5, xday, party, cents, days⟩ = false from decide_eq_false hx, (ap_bad (.inr hx)).1, (ap_bad (.inr hx)).2]
        rfl
    · rw [chk8 hg, (ap_bad (.inl hg)).1, (ap_bad (.inl hg)).2]
      rfl
  · cases h
set_option maxHeartbeats 4000000 in
theorem den_tar6 : Den Try.prog 22 (FapK 6) := evF_den C9_ok fun ds rs h => by
  unfold FapK at h
  split at h
  · rename_i an ev de ex cl st day due xd e0 e1 aw k xday party cents days
    simp only [Option.some.injEq, Prod.mk.injEq, Bool.and_eq_true, decide_eq_true_eq] at h
    obtain ⟨⟨h1, rfl⟩, rfl⟩ := h
    refine (tar6 ⟨an, ev, de, ex, cl, st, day, due, xd, e0, e1, aw⟩ xday party cents days).trans ?_
    dsimp only
    rw [h1]
    by_cases hg : goodC ⟨an, ev, de, ex, cl, st, day, due, xd, e0, e1, aw⟩
    · by_cases hx : evtP ⟨6, xday, party, cents, days⟩
      · rw [chk0 hg, show evtB ⟨6, xday, party, cents, days⟩ = true from decide_eq_true hx]
        by_cases ha : atE ⟨an, ev, de, ex, cl, st, day, due, xd, e0, e1, aw⟩ xday = 0
        · obtain ⟨_, f1, f2, f3, f4, f5, f6, f7, f8⟩ := at_good ha
          have hE := ap_go hg hx ha
          have hN := @ap_no ⟨an, ev, de, ex, cl, st, day, due, xd, e0, e1, aw⟩ ⟨6, xday, party, cents, days⟩
          have hY := @ap_yes ⟨an, ev, de, ex, cl, st, day, due, xd, e0, e1, aw⟩ ⟨6, xday, party, cents, days⟩
          rw [ha]
          generalize apE ⟨an, ev, de, ex, cl, st, day, due, xd, e0, e1, aw⟩ ⟨6, xday, party, cents, days⟩ = E at *
          generalize apC ⟨an, ev, de, ex, cl, st, day, due, xd, e0, e1, aw⟩ ⟨6, xday, party, cents, days⟩ = R at *
          dsimp only at hE hN hY f1 f2 f3 f4 f5 f6 f7 f8
          generalize atC ⟨an, ev, de, ex, cl, st, day, due, xd, e0, e1, aw⟩ xday = q at *
          clear hg ha h1 f2 f3 f4 f5 f6
          simp only [goodC, termsP] at f1
          simp only [evtP, true_and, true_or, or_true] at hx
          obtain ⟨⟨g1, g2⟩, ⟨g3, g4⟩, ⟨g5, g6⟩, g7⟩ := f1.1
          obtain ⟨g8, g9, g10, g11, g12, g13, g14, g15⟩ := f1.2
          clear f1 g15
          have hA' : allP 6 q.st ↔ (q.st = 1 ∨ q.st = 2) := by unfold allP liveP; omega
          have hb : allB 6 q.st = decide (allP 6 q.st) := rfl
          (try rw [hb])
          simp only [hA'] at hE ⊢
          clear hA' hb
          simp only [evid] at hE
          by_cases hp : party = 0
          · simp only [hp, if_true, true_and, true_or] at hE
            split at hE
            · rw [hN hE (by decide), hE]
              clear hE hN hY
              repeat' (first | refine br_splitE (fun h => ?_) (fun h => ?_) | refine br_splitP (fun h => ?_) (fun h => ?_) | refine br_splitA (fun h => ?_) (fun h => ?_) | refine br_split (fun h => ?_) (fun h => ?_))
              all_goals first | rfl | contradiction | (exfalso; omega) | (exfalso; (try simp only [true_and, and_true, true_or, not_tr, decide_eq_true_eq, Bool.and_eq_true] at *); omega) | fail "LEAF"
            · split at hE
              · rw [hN hE (by decide), hE]
                clear hE hN hY
                repeat' (first | refine br_splitE (fun h => ?_) (fun h => ?_) | refine br_splitP (fun h => ?_) (fun h => ?_) | refine br_splitA (fun h => ?_) (fun h => ?_) | refine br_split (fun h => ?_) (fun h => ?_))
                all_goals first | rfl | contradiction | (exfalso; omega) | (exfalso; (try simp only [true_and, and_true, true_or, not_tr, decide_eq_true_eq, Bool.and_eq_true] at *); omega) | fail "LEAF"
              · split at hE
                · rw [hN hE (by decide), hE]
                  clear hE hN hY
                  repeat' (first | refine br_splitE (fun h => ?_) (fun h => ?_) | refine br_splitP (fun h => ?_) (fun h => ?_) | refine br_splitA (fun h => ?_) (fun h => ?_) | refine br_split (fun h => ?_) (fun h => ?_))
                  all_goals first | rfl | contradiction | (exfalso; omega) | (exfalso; (try simp only [true_and, and_true, true_or, not_tr, decide_eq_true_eq, Bool.and_eq_true] at *); omega) | fail "LEAF"
                · rw [hY hE, hE]
                  clear hE hN hY
                  subst hp
                  repeat' (first | refine br_splitE (fun h => ?_) (fun h => ?_) | refine br_splitP (fun h => ?_) (fun h => ?_) | refine br_splitA (fun h => ?_) (fun h => ?_) | refine br_split (fun h => ?_) (fun h => ?_))
                  all_goals first | rfl | contradiction | (exfalso; omega) | (exfalso; (try simp only [true_and, and_true, true_or, not_tr, decide_eq_true_eq, Bool.and_eq_true] at *); omega) | fail "LEAF"
          · simp only [hp, if_false, true_and, true_or] at hE
            have hp1 : party = 1 := by omega
            split at hE
            · rw [hN hE (by decide), hE]
              clear hE hN hY
              repeat' (first | refine br_splitE (fun h => ?_) (fun h => ?_) | refine br_splitP (fun h => ?_) (fun h => ?_) | refine br_splitA (fun h => ?_) (fun h => ?_) | refine br_split (fun h => ?_) (fun h => ?_))
              all_goals first | rfl | contradiction | (exfalso; omega) | (exfalso; (try simp only [true_and, and_true, true_or, not_tr, decide_eq_true_eq, Bool.and_eq_true] at *); omega) | fail "LEAF"
            · split at hE
              · rw [hN hE (by decide), hE]
                clear hE hN hY
                repeat' (first | refine br_splitE (fun h => ?_) (fun h => ?_) | refine br_splitP (fun h => ?_) (fun h => ?_) | refine br_splitA (fun h => ?_) (fun h => ?_) | refine br_split (fun h => ?_) (fun h => ?_))
                all_goals first | rfl | contradiction | (exfalso; omega) | (exfalso; (try simp only [true_and, and_true, true_or, not_tr, decide_eq_true_eq, Bool.and_eq_true] at *); omega) | fail "LEAF"
              · split at hE
                · rw [hN hE (by decide), hE]
                  clear hE hN hY
                  repeat' (first | refine br_splitE (fun h => ?_) (fun h => ?_) | refine br_splitP (fun h => ?_) (fun h => ?_) | refine br_splitA (fun h => ?_) (fun h => ?_) | refine br_split (fun h => ?_) (fun h => ?_))
                  all_goals first | rfl | contradiction | (exfalso; omega) | (exfalso; (try simp only [true_and, and_true, true_or, not_tr, decide_eq_true_eq, Bool.and_eq_true] at *); omega) | fail "LEAF"
                · rw [hY hE, hE]
                  clear hE hN hY
                  subst hp1
                  repeat' (first | refine br_splitE (fun h => ?_) (fun h => ?_) | refine br_splitP (fun h => ?_) (fun h => ?_) | refine br_splitA (fun h => ?_) (fun h => ?_) | refine br_split (fun h => ?_) (fun h => ?_))
                  all_goals first | rfl | contradiction | (exfalso; omega) | (exfalso; (try simp only [true_and, and_true, true_or, not_tr, decide_eq_true_eq, Bool.and_eq_true] at *); omega) | fail "LEAF"
        · rw [(ap_at hg hx ha).1, (ap_at hg hx ha).2, show (atE ⟨an, ev, de, ex, cl, st, day, due, xd, e0, e1, aw⟩ xday != 0) = true by simpa using ha]
          rfl
      · rw [chk0 hg, show evtB ⟨6, xday, party, cents, days⟩ = false from decide_eq_false hx, (ap_bad (.inr hx)).1, (ap_bad (.inr hx)).2]
        rfl
    · rw [chk8 hg, (ap_bad (.inl hg)).1, (ap_bad (.inl hg)).2]
      rfl
  · cases h
set_option maxHeartbeats 4000000 in
theorem den_tar7 : Den Try.prog 22 (FapK 7) := evF_den C9_ok fun ds rs h => by
  unfold FapK at h
  split at h
  · rename_i an ev de ex cl st day due xd e0 e1 aw k xday party cents days
    simp only [Option.some.injEq, Prod.mk.injEq, Bool.and_eq_true, decide_eq_true_eq] at h
    obtain ⟨⟨h1, rfl⟩, rfl⟩ := h
    refine (tar7 ⟨an, ev, de, ex, cl, st, day, due, xd, e0, e1, aw⟩ xday party cents days).trans ?_
    dsimp only
    rw [h1]
    by_cases hg : goodC ⟨an, ev, de, ex, cl, st, day, due, xd, e0, e1, aw⟩
    · by_cases hx : evtP ⟨7, xday, party, cents, days⟩
      · rw [chk0 hg, show evtB ⟨7, xday, party, cents, days⟩ = true from decide_eq_true hx]
        by_cases ha : atE ⟨an, ev, de, ex, cl, st, day, due, xd, e0, e1, aw⟩ xday = 0
        · obtain ⟨_, f1, f2, f3, f4, f5, f6, f7, f8⟩ := at_good ha
          have hE := ap_go hg hx ha
          have hN := @ap_no ⟨an, ev, de, ex, cl, st, day, due, xd, e0, e1, aw⟩ ⟨7, xday, party, cents, days⟩
          have hY := @ap_yes ⟨an, ev, de, ex, cl, st, day, due, xd, e0, e1, aw⟩ ⟨7, xday, party, cents, days⟩
          rw [ha]
          generalize apE ⟨an, ev, de, ex, cl, st, day, due, xd, e0, e1, aw⟩ ⟨7, xday, party, cents, days⟩ = E at *
          generalize apC ⟨an, ev, de, ex, cl, st, day, due, xd, e0, e1, aw⟩ ⟨7, xday, party, cents, days⟩ = R at *
          dsimp only at hE hN hY f1 f2 f3 f4 f5 f6 f7 f8
          generalize atC ⟨an, ev, de, ex, cl, st, day, due, xd, e0, e1, aw⟩ xday = q at *
          clear hg ha h1 f2 f3 f4 f5 f6
          simp only [goodC, termsP] at f1
          simp only [evtP, true_and, true_or, or_true] at hx
          obtain ⟨⟨g1, g2⟩, ⟨g3, g4⟩, ⟨g5, g6⟩, g7⟩ := f1.1
          obtain ⟨g8, g9, g10, g11, g12, g13, g14, g15⟩ := f1.2
          clear f1 g15
          (try rw [show IntKind.i64.wrap (q.xd + 1) = q.xd + 1 from wrap64 (by omega) (by omega)])
          (try rw [show IntKind.i64.wrap (q.due + days) = q.due + days from wrap64 (by omega) (by omega)])
          have hA' : allP 7 q.st ↔ (q.st = 1 ∨ q.st = 2) := by unfold allP liveP; omega
          have hb : allB 7 q.st = decide (allP 7 q.st) := rfl
          (try rw [hb])
          simp only [hA'] at hE ⊢
          clear hA' hb
          simp only [evid] at hE
          by_cases hp : party = 0
          · simp only [hp, if_true, true_and, true_or] at hE
            split at hE
            · rw [hN hE (by decide), hE]
              clear hE hN hY
              repeat' (first | refine br_splitE (fun h => ?_) (fun h => ?_) | refine br_splitP (fun h => ?_) (fun h => ?_) | refine br_splitA (fun h => ?_) (fun h => ?_) | refine br_split (fun h => ?_) (fun h => ?_))
              all_goals first | rfl | contradiction | (exfalso; omega) | (exfalso; (try simp only [true_and, and_true, true_or, not_tr, decide_eq_true_eq, Bool.and_eq_true] at *); omega) | fail "LEAF"
            · split at hE
              · rw [hN hE (by decide), hE]
                clear hE hN hY
                repeat' (first | refine br_splitE (fun h => ?_) (fun h => ?_) | refine br_splitP (fun h => ?_) (fun h => ?_) | refine br_splitA (fun h => ?_) (fun h => ?_) | refine br_split (fun h => ?_) (fun h => ?_))
                all_goals first | rfl | contradiction | (exfalso; omega) | (exfalso; (try simp only [true_and, and_true, true_or, not_tr, decide_eq_true_eq, Bool.and_eq_true] at *); omega) | fail "LEAF"
              · split at hE
                · rw [hN hE (by decide), hE]
                  clear hE hN hY
                  repeat' (first | refine br_splitE (fun h => ?_) (fun h => ?_) | refine br_splitP (fun h => ?_) (fun h => ?_) | refine br_splitA (fun h => ?_) (fun h => ?_) | refine br_split (fun h => ?_) (fun h => ?_))
                  all_goals first | rfl | contradiction | (exfalso; omega) | (exfalso; (try simp only [true_and, and_true, true_or, not_tr, decide_eq_true_eq, Bool.and_eq_true] at *); omega) | fail "LEAF"
                · rw [hY hE, hE]
                  clear hE hN hY
                  subst hp
                  repeat' (first | refine br_splitE (fun h => ?_) (fun h => ?_) | refine br_splitP (fun h => ?_) (fun h => ?_) | refine br_splitA (fun h => ?_) (fun h => ?_) | refine br_split (fun h => ?_) (fun h => ?_))
                  all_goals first | rfl | contradiction | (exfalso; omega) | (exfalso; (try simp only [true_and, and_true, true_or, not_tr, decide_eq_true_eq, Bool.and_eq_true] at *); omega) | fail "LEAF"
          · simp only [hp, if_false, true_and, true_or] at hE
            have hp1 : party = 1 := by omega
            split at hE
            · rw [hN hE (by decide), hE]
              clear hE hN hY
              repeat' (first | refine br_splitE (fun h => ?_) (fun h => ?_) | refine br_splitP (fun h => ?_) (fun h => ?_) | refine br_splitA (fun h => ?_) (fun h => ?_) | refine br_split (fun h => ?_) (fun h => ?_))
              all_goals first | rfl | contradiction | (exfalso; omega) | (exfalso; (try simp only [true_and, and_true, true_or, not_tr, decide_eq_true_eq, Bool.and_eq_true] at *); omega) | fail "LEAF"
            · split at hE
              · rw [hN hE (by decide), hE]
                clear hE hN hY
                repeat' (first | refine br_splitE (fun h => ?_) (fun h => ?_) | refine br_splitP (fun h => ?_) (fun h => ?_) | refine br_splitA (fun h => ?_) (fun h => ?_) | refine br_split (fun h => ?_) (fun h => ?_))
                all_goals first | rfl | contradiction | (exfalso; omega) | (exfalso; (try simp only [true_and, and_true, true_or, not_tr, decide_eq_true_eq, Bool.and_eq_true] at *); omega) | fail "LEAF"
              · split at hE
                · rw [hN hE (by decide), hE]
                  clear hE hN hY
                  repeat' (first | refine br_splitE (fun h => ?_) (fun h => ?_) | refine br_splitP (fun h => ?_) (fun h => ?_) | refine br_splitA (fun h => ?_) (fun h => ?_) | refine br_split (fun h => ?_) (fun h => ?_))
                  all_goals first | rfl | contradiction | (exfalso; omega) | (exfalso; (try simp only [true_and, and_true, true_or, not_tr, decide_eq_true_eq, Bool.and_eq_true] at *); omega) | fail "LEAF"
                · rw [hY hE, hE]
                  clear hE hN hY
                  subst hp1
                  repeat' (first | refine br_splitE (fun h => ?_) (fun h => ?_) | refine br_splitP (fun h => ?_) (fun h => ?_) | refine br_splitA (fun h => ?_) (fun h => ?_) | refine br_split (fun h => ?_) (fun h => ?_))
                  all_goals first | rfl | contradiction | (exfalso; omega) | (exfalso; (try simp only [true_and, and_true, true_or, not_tr, decide_eq_true_eq, Bool.and_eq_true] at *); omega) | fail "LEAF"
        · rw [(ap_at hg hx ha).1, (ap_at hg hx ha).2, show (atE ⟨an, ev, de, ex, cl, st, day, due, xd, e0, e1, aw⟩ xday != 0) = true by simpa using ha]
          rfl
      · rw [chk0 hg, show evtB ⟨7, xday, party, cents, days⟩ = false from decide_eq_false hx, (ap_bad (.inr hx)).1, (ap_bad (.inr hx)).2]
        rfl
    · rw [chk8 hg, (ap_bad (.inl hg)).1, (ap_bad (.inl hg)).2]
      rfl
  · cases h
theorem den_tarf : Den Try.prog 22 FapF := evF_den C9f_ok fun ds rs h => by
  unfold FapF at h
  split at h
  · rename_i an ev de ex cl st day due xd e0 e1 aw k xday party cents days
    simp only [Option.some.injEq, Prod.mk.injEq, Bool.and_eq_true, decide_eq_true_eq] at h
    obtain ⟨⟨h1, h2⟩, rfl⟩ := h
    refine (tarf ⟨an, ev, de, ex, cl, st, day, due, xd, e0, e1, aw⟩ k xday party cents days).trans ?_
    dsimp only
    have hx : ¬ evtP ⟨k, xday, party, cents, days⟩ := by simp only [evtP]; omega
    rw [h1, (ap_bad (.inr hx)).1, (ap_bad (.inr hx)).2, decide_eq_true h2]
    cases (chkE ⟨an, ev, de, ex, cl, st, day, due, xd, e0, e1, aw⟩ != 0) <;> rfl
  · cases h
theorem den_tar : Den Try.prog 22 Fap := Den.cover fun ds rs h => by
  unfold Fap at h
  split at h
  · rename_i an ev de ex cl st day due xd e0 e1 aw k xday party cents days
    simp only [Option.some.injEq, Prod.mk.injEq] at h
    obtain ⟨h1, rfl⟩ := h
    by_cases h2 : k < 1 ∨ k > 7
    · exact ⟨FapF, den_tarf, by unfold FapF; simp only [h1, decide_eq_true h2, Bool.and_self]⟩
    · have h3 : k = 1 ∨ k = 2 ∨ k = 3 ∨ k = 4 ∨ k = 5 ∨ k = 6 ∨ k = 7 := by omega
      rcases h3 with h3 | h3 | h3 | h3 | h3 | h3 | h3
      · exact ⟨FapK 1, den_tar1, by unfold FapK; simp only [h1, decide_eq_true h3, Bool.and_self]⟩
      · exact ⟨FapK 2, den_tar2, by unfold FapK; simp only [h1, decide_eq_true h3, Bool.and_self]⟩
      · exact ⟨FapK 3, den_tar3, by unfold FapK; simp only [h1, decide_eq_true h3, Bool.and_self]⟩
      · exact ⟨FapK 4, den_tar4, by unfold FapK; simp only [h1, decide_eq_true h3, Bool.and_self]⟩
      · exact ⟨FapK 5, den_tar5, by unfold FapK; simp only [h1, decide_eq_true h3, Bool.and_self]⟩
      · exact ⟨FapK 6, den_tar6, by unfold FapK; simp only [h1, decide_eq_true h3, Bool.and_self]⟩
      · exact ⟨FapK 7, den_tar7, by unfold FapK; simp only [h1, decide_eq_true h3, Bool.and_self]⟩
  · cases h
end Go.Proofs.Ytiiaimghkmlhlaa

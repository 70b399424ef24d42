/- Texts: contracts of Text (both) and of the package's Parse. No conditions. -/
import Derived.Test.YtofkkhdmjllcfaaDoorQ8
import Derived.Lib.ItoaLen
import Derived.Lib.ParseIntBTie
namespace Go.Proofs.YtofkkhdmjllcfaaDoor
open Go.Ev Go.RowKit Go.Lib Go.Dec
set_option linter.all false
theorem CT_ok : CxW (CTg (fun n => txt (decDigits n.toNat)) (fun n => txt (itoa n)) chkE) Wt := mkCx_okW enter mixed (fun p h => by
  simp only [List.mem_cons, List.not_mem_nil, or_false] at h
  rcases h with rfl | rfl | rfl | rfl
  · exact den_dec.at _
  · exact den_chkr.at _
  · exact den_chk.at _
  · exact den_fmt) (fun l h => by cases h)
def Ftx : List D → Option (Bool × List D)
  | [.agg [.v (.int .i64 n), .v (.int .i64 d)]] => some (iR n && iR d, [.v (str (txL n d)), .v (i64 (chkE n d))])
  | _ => none
theorem max_i64 : IntKind.i64.max = 9223372036854775807 := by decide
theorem itoa_len {n : Int} (h : iR n = true) : (itoa n).length ≤ 21 := by
  obtain ⟨h0, h1⟩ := iR_iff.1 h
  exact itoa_length_le n h0 (by omega)
theorem good_pos {n : Int} (h : 0 ≤ n) : decDigits n.toNat = itoa n := by
  obtain ⟨u, rfl⟩ := Int.eq_ofNat_of_zero_le h
  rw [itoa_nonneg, Int.toNat_natCast]
theorem good_neg {n : Int} (h : n < 0) : [45] ++ decDigits (0 - n).toNat = itoa n := by
  obtain ⟨u, rfl⟩ : ∃ u : Nat, n = -(u : Int) := ⟨n.natAbs, by omega⟩
  rw [itoa_neg u (by omega), show (0 - -(u : Int)).toNat = u by omega]
  rfl
theorem den_text : DenW Tryd.prog Wt 8 Ftx := evF_denW CT_ok fun ds rs h => by
  unfold Ftx at h
  split at h
  · rename_i n d
    simp only [Option.some.injEq, Prod.mk.injEq] at h
    obtain ⟨h0, rfl⟩ := h
    refine (ttext (fun n => txt (decDigits n.toNat)) (fun n => txt (itoa n)) chkE n d).trans ?_
    have hr := h0
    simp only [Bool.and_eq_true] at hr
    rw [h0, br_true]
    unfold str txL
    by_cases hc : chkE n d = 0
    · rw [show (chkE n d != 0) = false by simpa using hc, br_false, hr.1, show (true && decide (10 = 10)) = true from rfl, br_true, if_pos hc, hr.2, hc, show (true && decide (10 = 10)) = true from rfl, br_true]
      have l1 := itoa_len hr.1
      have l2 := itoa_len hr.2
      by_cases hd : d > 1
      · rw [decide_eq_true hd, br_true, if_pos hd]
        show br (decide ((((txt [47]).size + (txt (itoa d)).size : Nat) : Int) > IntKind.i64.max)) none (br (decide ((((txt (itoa n)).size + (txt [47] ++ txt (itoa d)).size : Nat) : Int) > IntKind.i64.max)) none (some [D.v (.string (txt (itoa n) ++ (txt [47] ++ txt (itoa d)))), .v (i64 0)])) = _
        rw [txt_app, txt_app, txt_size, txt_size, txt_size, txt_size, max_i64, decide_eq_false (by simp; omega), br_false, decide_eq_false (by simp; omega), br_false]
        rfl
      · rw [decide_eq_false hd, br_false, if_neg hd]
    · rw [show (chkE n d != 0) = true by simpa using hc, br_true, if_neg hc]
      rfl
  · cases h
theorem chk_zero_or (n d : Int) : chkE n d = 0 ∨ chkE n d = 8 := by
  unfold chkE
  split
  · exact .inl rfl
  · exact .inr rfl
theorem den_textr : DenW Tryd.prog Wt 9 Ftx := evF_denW CT_ok fun ds rs h => by
  unfold Ftx at h
  split at h
  · rename_i n d
    simp only [Option.some.injEq, Prod.mk.injEq] at h
    obtain ⟨h0, rfl⟩ := h
    refine (ttextr (fun n => txt (decDigits n.toNat)) (fun n => txt (itoa n)) chkE n d).trans ?_
    have hr := h0
    simp only [Bool.and_eq_true] at hr
    rw [h0, br_true]
    unfold str txL
    by_cases hc : chkE n d = 0
    · obtain ⟨g1, g2, _⟩ := chk_good hc
      rw [show (chkE n d != 0) = false by simpa using hc, br_false, if_pos hc, hc]
      have l1 := itoa_len hr.1
      have l2 := itoa_len hr.2
      have hD : txt (decDigits d.toNat) = txt (itoa d) := by rw [good_pos (by omega)]
      have hw : IntKind.i64.wrap (0 - n) = 0 - n := wrapI_id (by omega) (by omega)
      have main : ∀ x : List UInt8, x = itoa n → br (decide (d > 1)) (br (decide (0 ≤ d) && decide (d < 9223372036854775808)) (br (decide ((((txt [47]).size + (txt (itoa d)).size : Nat) : Int) > IntKind.i64.max)) none (br (decide ((((txt x).size + (txt [47] ++ txt (itoa d)).size : Nat) : Int) > IntKind.i64.max)) none (some [D.v (.string (txt x ++ (txt [47] ++ txt (itoa d)))), .v (i64 0)]))) none) (some [.v (.string (txt x)), .v (i64 0)]) =
          some [D.v (.string (txt (if d > 1 then itoa n ++ 47 :: itoa d else itoa n))), .v (i64 0)] := by
        rintro x rfl
        by_cases hd : d > 1
        · rw [decide_eq_true hd, br_true, if_pos hd, show (decide (0 ≤ d) && decide (d < 9223372036854775808)) = true by simp only [Bool.and_eq_true, decide_eq_true_eq]; omega, br_true, txt_app, txt_app, txt_size, txt_size, txt_size, txt_size, max_i64, decide_eq_false (by simp; omega), br_false, decide_eq_false (by simp; omega), br_false]
          rfl
        · rw [decide_eq_false hd, br_false, if_neg hd]
      by_cases hn : n < 0
      · have hx : txt [45] ++ txt (decDigits (0 - n).toNat) = txt (itoa n) := by rw [txt_app, good_neg hn]
        rw [decide_eq_true hn, br_true, hw, show (decide (0 ≤ 0 - n) && decide (0 - n < 9223372036854775808)) = true by simp only [Bool.and_eq_true, decide_eq_true_eq]; omega, br_true]
        have hl : (decDigits (0 - n).toNat).length + 1 ≤ 21 := by
          have := congrArg List.length (good_neg hn)
          simp at this
          simp
          omega
        show br (decide ((((txt [45]).size + (txt (decDigits (0 - n).toNat)).size : Nat) : Int) > IntKind.i64.max)) none (br (decide (d > 1)) (br (decide (0 ≤ d) && decide (d < 9223372036854775808)) (br (decide ((((txt [47]).size + (txt (decDigits d.toNat)).size : Nat) : Int) > IntKind.i64.max)) none (br (decide ((((txt [45] ++ txt (decDigits (0 - n).toNat)).size + (txt [47] ++ txt (decDigits d.toNat)).size : Nat) : Int) > IntKind.i64.max)) none (some [D.v (.string (txt [45] ++ txt (decDigits (0 - n).toNat) ++ (txt [47] ++ txt (decDigits d.toNat)))), .v (i64 0)]))) none) (some [.v (.string (txt [45] ++ txt (decDigits (0 - n).toNat))), .v (i64 0)])) = _
        rw [txt_size, txt_size, max_i64, decide_eq_false (by simp at hl ⊢; omega), br_false, ← max_i64, hx, hD]
        exact main _ rfl
      · have hx : txt [] ++ txt (decDigits n.toNat) = txt (itoa n) := by rw [txt_app, good_pos (by omega)]; rfl
        rw [decide_eq_false hn, br_false, show (decide (0 ≤ n) && decide (n < 9223372036854775808)) = true by simp only [Bool.and_eq_true, decide_eq_true_eq]; omega, br_true]
        have hl : (decDigits n.toNat).length ≤ 21 := by rw [good_pos (by omega)]; exact l1
        show br (decide ((((txt []).size + (txt (decDigits n.toNat)).size : Nat) : Int) > IntKind.i64.max)) none (br (decide (d > 1)) (br (decide (0 ≤ d) && decide (d < 9223372036854775808)) (br (decide ((((txt [47]).size + (txt (decDigits d.toNat)).size : Nat) : Int) > IntKind.i64.max)) none (br (decide ((((txt [] ++ txt (decDigits n.toNat)).size + (txt [47] ++ txt (decDigits d.toNat)).size : Nat) : Int) > IntKind.i64.max)) none (some [D.v (.string (txt [] ++ txt (decDigits n.toNat) ++ (txt [47] ++ txt (decDigits d.toNat)))), .v (i64 0)]))) none) (some [.v (.string (txt [] ++ txt (decDigits n.toNat))), .v (i64 0)])) = _
        rw [txt_size, txt_size, max_i64, decide_eq_false (by simp; omega), br_false, ← max_i64, hx, hD]
        exact main _ rfl
    · have h8 : chkE n d = 8 := (chk_zero_or n d).resolve_left hc
      rw [show (chkE n d != 0) = true by simpa using hc, br_true, if_neg hc]
      rfl
  · cases h
/-! ### Parse of the package -/
def Fct (c1 c2 : ByteArray → ByteArray → ByteArray) (c3 : ByteArray → ByteArray → Bool) : List D → Option (Bool × List D)
  | [.v (.string s), .v (.string p)] => some (decide (s.size < 4294967281), [.v (.string (c1 s p)), .v (.string (c2 s p)), .v (.bool (c3 s p))])
  | _ => none
def Fpi (pn : ByteArray → Int) (pe : ByteArray → Bool) : List D → Option (Bool × List D)
  | [.v (.string s), .v (.int .i64 b), .v (.int .i64 z)] => some (decide (b = 10) && decide (z = 64) && decide (s.size ≤ 4294967296), [.v (i64 (pn s)), .err (pe s)])
  | _ => none
def Ftv (tn : Int → Int → ByteArray) (te : Int → Int → Int) : List D → Option (Bool × List D)
  | [.agg [.v (.int .i64 n), .v (.int .i64 d)]] => some (iR n && iR d, [.v (.string (tn n d)), .v (i64 (te n d))])
  | _ => none
noncomputable def CQg (c1 c2 : ByteArray → ByteArray → ByteArray) (c3 : ByteArray → ByteArray → Bool) (pn : ByteArray → Int) (pe : ByteArray → Bool) (tn : Int → Int → ByteArray) (te : Int → Int → Int) : Cx :=
  mkCx Tryd.prog fns [(8, Ftv tn te), (30, Fpi pn pe), (29, Fct c1 c2 c3)] []
def ptF (tn : Int → Int → ByteArray) (te : Int → Int → Int) (s : ByteArray) (num den : Int) : Option (List D) := br (iR num && iR den) (br (te num den != 0) pqE (br (!((tn num den).toList == s.toList)) pqE (some [.agg [.v (i64 num), .v (i64 den)], .v (i64 0)]))) none
def ptT (pn : ByteArray → Int) (pe : ByteArray → Bool) (tn : Int → Int → ByteArray) (te : Int → Int → Int) (s a b : ByteArray) : Option (List D) :=
  br (decide (10 = 10) && decide (64 = 64) && decide (a.size ≤ 4294967296)) (br (pe a) pqE (br (!(b.toList == (txt []).toList)) (br (decide (10 = 10) && decide (64 = 64) && decide (b.size ≤ 4294967296)) (br (pe b) pqE (ptF tn te s (pn a) (pn b))) none) (ptF tn te s (pn a) 1))) none
set_option maxRecDepth 100000 in
theorem tparse (c1 c2 : ByteArray → ByteArray → ByteArray) (c3 : ByteArray → ByteArray → Bool) (pn : ByteArray → Int) (pe : ByteArray → Bool) (tn : Int → Int → ByteArray) (te : Int → Int → Int) (s : ByteArray) : evF (CQg c1 c2 c3 pn pe tn te) 6 10 [.v (.string s)] =
    br (decide (s.size < 4294967281)) (ptT pn pe tn te s (c1 s (txt [47])) (c2 s (txt [47]))) none := by kernel_rfl
theorem CQ_ok : CxW (CQg (fun s p => txt (cut (by_ s) (by_ p)).1) (fun s p => txt (cut (by_ s) (by_ p)).2.1) (fun s p => (cut (by_ s) (by_ p)).2.2) (fun s => piN (by_ s)) (fun s => piE (by_ s)) (fun n d => txt (txL n d)) chkE) Wt := mkCx_okW enter mixed (fun p h => by
  simp only [List.mem_cons, List.not_mem_nil, or_false] at h
  rcases h with rfl | rfl | rfl
  · exact den_text
  · exact den_pint
  · exact den_cut) (fun l h => by cases h)
theorem pi_range {l : List UInt8} (h : piE l = false) : iR (piN l) = true := by
  unfold piE at h
  unfold piN
  cases hp : parseIntB 64 l with
  | ok v =>
    have := parseIntB_bounds hp
    have e2 : (2 : Nat) ^ (64 - 1) = 9223372036854775808 := by decide
    rw [e2] at this
    exact iR_iff.2 (by show -9223372036854775808 ≤ v ∧ v < 9223372036854775808; omega)
  | «syntax» => rw [hp] at h; cases h
  | range => rw [hp] at h; cases h
theorem bytes_eq (a b : ByteArray) : (a.toList == b.toList) = decide (by_ a = by_ b) := by
  rw [toList_by, toList_by, Bool.eq_iff_iff]
  simp
theorem sp_le (l : List UInt8) : (sp l).1.length ≤ l.length ∧ ((sp l).2.getD []).length ≤ l.length := by
  obtain ⟨t1, t2, t3⟩ := sp_take l
  have h := congrArg List.length (sp_spec l)
  cases hq : (sp l).2 with
  | none => rw [hq] at h; simp at h; simp; omega
  | some y => rw [hq] at h; simp at h; simp; omega
theorem den_parp : DenW Tryd.prog Wt 10 Fps := evF_denW CQ_ok fun ds rs h => by
  unfold Fps at h
  split at h
  · rename_i s
    simp only [Option.some.injEq, Prod.mk.injEq, decide_eq_true_eq] at h
    obtain ⟨h0, rfl⟩ := h
    refine (tparse _ _ _ _ _ _ _ s).trans ?_
    have hc : cut (by_ s) (by_ (txt [47])) = ((sp (by_ s)).1, (sp (by_ s)).2.getD [], (sp (by_ s)).2.isSome) := cut_sp (by_ s)
    rw [decide_eq_true (show s.size < 4294967281 by omega), br_true, hc]
    obtain ⟨l1, l2⟩ := sp_le (by_ s)
    rw [← size_by] at l1 l2
    obtain ⟨p1, p2⟩ := pp_rp (by_ s)
    show ptT (fun s => piN (by_ s)) (fun s => piE (by_ s)) (fun n d => txt (txL n d)) chkE s (txt (sp (by_ s)).1) (txt ((sp (by_ s)).2.getD [])) = _
    have hbad : ppE (by_ s) ≠ 0 → pqE = some [.agg [.v (i64 (rpN (by_ s))), .v (i64 (rpD (by_ s)))], .v (i64 (rpE (by_ s)))] := fun h => by
      have hr : rpE (by_ s) = 12 := (rpE_or _).resolve_left (by rw [← p1]; exact h)
      obtain ⟨a, b⟩ := rp_or _ hr
      rw [a, b, hr]; rfl
    unfold ptT
    dsimp only
    rw [txt_size, txt_size, decide_eq_true (show (sp (by_ s)).1.length ≤ 4294967296 by omega), show (decide (10 = 10) && decide (64 = 64) && true) = true from rfl, br_true, bytes_eq, by_txt, by_txt, by_txt]
    cases e1 : piE (sp (by_ s)).1
    · rw [br_false]
      have fin : ∀ den, den = ppD (by_ s) → ((sp (by_ s)).2.getD [] = [] ∨ piE ((sp (by_ s)).2.getD []) = false) → iR den = true → ptF (fun n d => txt (txL n d)) chkE s (piN (sp (by_ s)).1) den = some [.agg [.v (i64 (rpN (by_ s))), .v (i64 (rpD (by_ s)))], .v (i64 (rpE (by_ s)))] := by
        intro den hden hor hir
        unfold ptF
        dsimp only
        rw [pi_range e1, hir, show (true && true) = true from rfl, br_true, bytes_eq, by_txt, hden]
        by_cases c1 : chkE (piN (sp (by_ s)).1) (ppD (by_ s)) = 0
        · rw [show (chkE (piN (sp (by_ s)).1) (ppD (by_ s)) != 0) = false by simpa using c1, br_false]
          by_cases c2 : txL (piN (sp (by_ s)).1) (ppD (by_ s)) = by_ s
          · have hp0 : ppE (by_ s) = 0 := if_pos ⟨e1, hor, c1, c2⟩
            rw [decide_eq_true c2, show (!true) = false from rfl, br_false, (p2 hp0).1, (p2 hp0).2, ← p1, hp0]
          · rw [decide_eq_false c2, show (!false) = true from rfl, br_true]
            exact hbad (by unfold ppE; rw [if_neg fun ⟨_, _, _, h⟩ => c2 h]; decide)
        · rw [show (chkE (piN (sp (by_ s)).1) (ppD (by_ s)) != 0) = true by simpa using c1, br_true]
          exact hbad (by unfold ppE; rw [if_neg fun ⟨_, _, h, _⟩ => c1 h]; decide)
      by_cases hG : (sp (by_ s)).2.getD [] = []
      · rw [decide_eq_true hG, show (!true) = false from rfl, br_false]
        exact fin 1 (by unfold ppD; rw [if_pos hG]) (.inl hG) (by decide)
      · rw [decide_eq_false hG, show (!false) = true from rfl, br_true, decide_eq_true (show ((sp (by_ s)).2.getD []).length ≤ 4294967296 by omega), show (decide (10 = 10) && decide (64 = 64) && true) = true from rfl, br_true]
        cases e2 : piE ((sp (by_ s)).2.getD [])
        · rw [br_false]
          exact fin _ (by unfold ppD; rw [if_neg hG]) (.inr e2) (pi_range e2)
        · rw [br_true]
          exact hbad (by unfold ppE; rw [if_neg fun ⟨_, h, _⟩ => h.elim hG (fun h => by rw [e2] at h; cases h)]; decide)
    · rw [br_true]
      exact hbad (by unfold ppE; rw [if_neg fun ⟨h, _⟩ => by rw [e1] at h; cases h]; decide)
  · cases h
end Go.Proofs.YtofkkhdmjllcfaaDoor

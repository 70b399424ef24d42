/- The reference reads names and numbers as they are written. No conditions. -/
import Derived.Test.YtopdfmhlgkbaaaaDoorT40
namespace Go.Proofs.YtopdfmhlgkbaaaaDoor
open Go.Ev Go.RowKit Go.Lib Go.Dec
set_option linter.all false
theorem by0_cons {x : ByteArray} {c : UInt8} {r : List UInt8} (h : by_ x = c :: r) : by0 x = (c.toNat : Int) := by
  unfold by0
  rw [getD_by, h]
  rfl
theorem nuB_name {s : ByteArray} (h : nmB s = true) : nuB s = false := by
  obtain ⟨⟨c, r, hb, hc⟩, _⟩ := nm_spec h
  have h0 := by0_cons hb
  have hg : nuG s = false := by
    unfold nuG
    rw [h0, beq_eq_false_iff_ne.2 (show ((c.toNat : Nat) : Int) ≠ 45 by omega), Bool.and_false]
  have hx : nuX s = s := by unfold nuX; rw [hg]; rfl
  have hr : (nuR s).1 = true := by
    unfold nuR
    have hs : s.size = r.length + 1 := by rw [size_by, hb]; rfl
    have hst : stU s 0 0 = true := by
      unfold stU
      have : ((s.data.getD 0 0).toNat : Int) = (c.toNat : Int) := h0
      rw [this, decide_eq_true (show (c.toNat : Int) > 57 by omega), Bool.or_true]
    rw [hs, runS_t hst]
  unfold nuB nuBq
  rw [hx, hr, Bool.not_true, Bool.and_false]
theorem run_digits (x : ByteArray) : ∀ (l pre : List UInt8) (n m : Int), by_ x = pre ++ l → valL l n = some m → runS (stU x) (nxU x) l.length pre.length n = (false, pre.length + l.length, m)
  | [], pre, n, m, _, h => by
    cases h
    rfl
  | c :: r, pre, n, m, hx, h => by
    unfold valL at h
    split at h
    · rename_i k hk
      obtain ⟨d1, d2, _, d4⟩ := dgS_some hk
      have hc : x.data.getD pre.length 0 = c := by rw [getD_by, hx]; simp [List.getD_eq_getElem?_getD]
      have hst : stU x pre.length n = false := by
        unfold stU
        rw [hc, decide_eq_false (show ¬ ((c.toNat : Int) < 48) by omega), decide_eq_false (show ¬ ((c.toNat : Int) > 57) by omega)]
        rfl
      have hnx : nxU x pre.length n = k := by unfold nxU; rw [hc, d4]
      rw [List.length_cons, runS_s hst, hnx]
      have := run_digits x r (pre ++ [c]) k m (by rw [hx, List.append_assoc]; rfl) h
      rw [List.length_append, List.length_singleton] at this
      rw [this, show pre.length + 1 + r.length = pre.length + (r.length + 1) by omega]
    · cases h
theorem nuR_dec {u : Nat} (hu : u ≤ 1000000000000000009) : nuR (txt (decDigits u)) = (false, (decDigits u).length, (u : Int)) := by
  unfold nuR
  rw [txt_size]
  have := run_digits (txt (decDigits u)) (decDigits u) [] 0 u rfl (valL_dec u u (Nat.le_refl _) hu)
  refine this.trans ?_
  simp
theorem dec_len {u : Nat} (h : u ≤ 1000000000) : 1 ≤ (decDigits u).length ∧ (decDigits u).length ≤ 10 := by
  rw [decDigits_length]
  have := nDigits_lt 9 u (by omega)
  have := nDigits_pos u
  omega
theorem dec_lead {u : Nat} (h : 1 < (decDigits u).length) : by0 (txt (decDigits u)) ≠ 48 := by
  have hu : 1 ≤ u := by
    rcases Nat.eq_zero_or_pos u with h0 | h0
    · subst h0
      rw [decDigits_length, nDigits_small (by omega)] at h
      omega
    · exact h0
  obtain ⟨c, r, h1, h2⟩ := dec_head u u (Nat.le_refl _) hu
  rw [by0_cons (x := txt (decDigits u)) (by rw [by_txt]; exact h1)]
  omega
theorem dec_first (u : Nat) : ∃ c r, decDigits u = c :: r ∧ 48 ≤ c.toNat ∧ c.toNat ≤ 57 := by
  cases hd : decDigits u with
  | nil => exact absurd hd (dec_ne u)
  | cons c r => exact ⟨c, r, rfl, dec_digit u u (Nat.le_refl _) c (by rw [hd]; simp)⟩
theorem nu_itoa {n : Int} (h : -1000000000 ≤ n ∧ n ≤ 1000000000) : nuB (ddP n) = true ∧ nuN (ddP n) = n := by
  by_cases hn : n < 0
  · obtain ⟨u, rfl⟩ : ∃ u : Nat, n = -(u : Int) := ⟨n.natAbs, by omega⟩
    have hd : ddP (-(u : Int)) = txt (45 :: decDigits u) := by unfold ddP; rw [itoa_neg u (by omega)]
    obtain ⟨l1, l2⟩ := dec_len (u := u) (by omega)
    have hg : nuG (txt (45 :: decDigits u)) = true := by
      unfold nuG
      rw [by0_cons (x := txt (45 :: decDigits u)) rfl, txt_size, List.length_cons, decide_eq_true (show (((decDigits u).length + 1 : Nat) : Int) > 1 by omega)]
      rfl
    have hx : nuX (txt (45 :: decDigits u)) = txt (decDigits u) := by
      unfold nuX
      rw [hg, cond_true]
      refine by_inj ?_
      rw [by_extract1]
      rfl
    have hr := nuR_dec (u := u) (by omega)
    have hB : nuB (txt (45 :: decDigits u)) = true := by
      unfold nuB nuBq
      rw [hg, hx, hr, txt_size, decide_eq_true (show 1 ≤ (decDigits u).length ∧ (decDigits u).length ≤ 10 from ⟨l1, l2⟩)]
      obtain ⟨c, r, d1, d2⟩ := dec_head u u (Nat.le_refl _) (by omega)
      have h0 : (by0 (txt (decDigits u)) == 48) = false := beq_eq_false_iff_ne.2 (by rw [by0_cons (x := txt (decDigits u)) (by rw [by_txt]; exact d1)]; omega)
      rw [h0, Bool.and_false]
      rfl
    rw [hd]
    refine ⟨hB, ?_⟩
    unfold nuN
    rw [hB, cond_true]
    unfold nuVq
    rw [hg, hx, hr, cond_true]
    show IntKind.i64.wrap (0 - (u : Int)) = _
    rw [wrap64 (by omega) (by omega)]
    omega
  · obtain ⟨u, rfl⟩ : ∃ u : Nat, n = (u : Int) := ⟨n.toNat, by omega⟩
    have hd : ddP (u : Int) = txt (decDigits u) := by unfold ddP; rw [itoa_nonneg u]
    obtain ⟨l1, l2⟩ := dec_len (u := u) (by omega)
    obtain ⟨c, r, d1, d2, d3⟩ := dec_first u
    have hg : nuG (txt (decDigits u)) = false := by
      unfold nuG
      rw [by0_cons (x := txt (decDigits u)) (by rw [by_txt]; exact d1), beq_eq_false_iff_ne.2 (show ((c.toNat : Nat) : Int) ≠ 45 by omega), Bool.and_false]
    have hx : nuX (txt (decDigits u)) = txt (decDigits u) := by unfold nuX; rw [hg]; rfl
    have hr := nuR_dec (u := u) (by omega)
    have hB : nuB (txt (decDigits u)) = true := by
      unfold nuB nuBq
      rw [hg, hx, hr, txt_size, decide_eq_true (show 1 ≤ (decDigits u).length ∧ (decDigits u).length ≤ 10 from ⟨l1, l2⟩)]
      have h0 : (decide ((decDigits u).length > 1) && by0 (txt (decDigits u)) == 48) = false := by
        by_cases h1 : 1 < (decDigits u).length
        · rw [beq_eq_false_iff_ne.2 (dec_lead h1), Bool.and_false]
        · rw [decide_eq_false h1, Bool.false_and]
      rw [h0]
      rfl
    rw [hd]
    refine ⟨hB, ?_⟩
    unfold nuN
    rw [hB, cond_true]
    unfold nuVq
    rw [hg, hx, hr]
    rfl
theorem OkLn.lists3 {w : Int} {nm nu : Row} (h : OkLn w nm nu) : nms3 (strs nm nm.n ++ nuL nu nu.n) = strs nm nm.n ∧ nus3 (strs nm nm.n ++ nuL nu nu.n) = ints nu nu.n := by
  have h1 : ∀ p ∈ strs nm nm.n, nuB p = false := fun p hp => by
    obtain ⟨i, hi, rfl⟩ := List.mem_map.1 hp
    exact nuB_name (h.pn i (List.mem_range.1 hi))
  have h2 : ∀ p ∈ nuL nu nu.n, nuB p = true := fun p hp => by
    unfold nuL at hp
    obtain ⟨i, hi, rfl⟩ := List.mem_map.1 hp
    exact (nu_itoa (h.pu i (List.mem_range.1 hi))).1
  unfold nms3 nus3
  rw [List.filter_append, List.filter_append, List.filter_eq_self.2 (fun p hp => by rw [h1 p hp]; rfl), List.filter_eq_nil_iff.2 (fun p hp => by rw [h2 p hp]; decide), List.filter_eq_nil_iff.2 (fun p hp => by rw [h1 p hp]; decide), List.filter_eq_self.2 (fun p hp => h2 p hp), List.append_nil, List.nil_append]
  refine ⟨rfl, ?_⟩
  unfold nuL ints
  rw [List.map_map]
  refine List.map_congr_left fun i hi => ?_
  exact (nu_itoa (h.pu i (List.mem_range.1 hi))).2
/-- A valid line's text is read as that line, by the reference too. -/
theorem rq_valid {w : Int} {nm nu : Row} (h : vaB w nm nu = true) : rqW (txt (wrL w nm nu)) = w ∧ SmL (rqN (txt (wrL w nm nu))) (rqU (txt (wrL w nm nu))) nm nu ∧ rqB (txt (wrL w nm nu)) = true := by
  have hk := va_okln h
  obtain ⟨h1, h2⟩ := rq_lists (txt (wrL w nm nu))
  obtain ⟨h3, h4⟩ := hk.lists3
  rw [hk.rdP, h3] at h1
  rw [hk.rdP, h4] at h2
  have hw : rqW (txt (wrL w nm nu)) = w := (rq_W _).trans hk.rdW
  obtain ⟨a, b⟩ := strs_eq h1
  obtain ⟨c, d⟩ := ints_eq h2
  have hS : SmL (rqN (txt (wrL w nm nu))) (rqU (txt (wrL w nm nu))) nm nu := ⟨a, b, c, d⟩
  refine ⟨hw, hS, ?_⟩
  unfold rqB
  rw [hw, hS.va w, hS.wr w, h]
  simp
theorem rq_back {s : ByteArray} (h : rqB s = true) : vaB (rqW s) (rqN s) (rqU s) = true ∧ txt (wrL (rqW s) (rqN s) (rqU s)) = s := by
  unfold rqB at h
  rw [Bool.and_eq_true] at h
  exact ⟨h.1, eqS_iff.1 h.2⟩
end Go.Proofs.YtopdfmhlgkbaaaaDoor

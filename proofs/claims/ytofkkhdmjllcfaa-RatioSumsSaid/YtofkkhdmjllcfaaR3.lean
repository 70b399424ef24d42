/- Common divisors, absolute values, products of 128 bits: contracts. No conditions. -/
import Derived.Test.YtofkkhdmjllcfaaR2
namespace Go.Proofs.Ytofkkhdmjllcfaa
open Go.Ev
set_option linter.all false
def Sg (a b : Int) : St := ⟨[.int .u64 a, .int .u64 b] ++ us 10, [[]], []⟩
def Sgx (a : Int) : St := ⟨[.int .u64 a] ++ us 11, [[]], []⟩
def Gg : List It → (X → St → Option (List D)) → Option (List D)
  | [.i a, .i b], k => br (decide (0 ≤ a) && decide (0 ≤ b) && decide (b < 18446744073709551616)) (k (.exit 0) (Sgx (gcdI a b))) none
  | _, _ => none
def lg (f : FuncId) : LoopC where
  f := f
  id := 1
  lv := [0, 1]
  lx := [0, 4]
  p := { τ := [.v (.int .u64), .v (.int .u64)] ++ pu 10, saved := [[]], mem := [] }
  G := Gg
noncomputable def Cg : Cx := mkCx Try.prog fns [] [lg 22, lg 25]
theorem roundg (q : Nat) (R : St → Option (List D)) (K : X → St → Option (List D)) (a b : Int) : evCode Cg 22 true (inl Cg (q + 4)) (lbody Cg.P 22 1) (Sg a b) (rnd [0, 1] (some [0, 4]) R K) =
    br (decide (b > 0)) (br (decide (b = 0)) none (R (Sg b (a.tmod b)))) (K (.exit 0) (Sgx a)) := by kernel_rfl
theorem roundh (q : Nat) (R : St → Option (List D)) (K : X → St → Option (List D)) (a b : Int) : evCode Cg 25 true (inl Cg (q + 4)) (lbody Cg.P 25 1) (Sg a b) (rnd [0, 1] (some [0, 4]) R K) =
    br (b != 0) (br (decide (b = 0)) none (R (Sg b (a.tmod b)))) (K (.exit 0) (Sgx a)) := by kernel_rfl
theorem go_gcd {f : St → (X → St → Option (List D)) → Option (List D)} (hr : ∀ a b R K, 0 ≤ b → f (Sg a b) (rnd [0, 1] (some [0, 4]) R K) = if b = 0 then K (.exit 0) (Sgx a) else R (Sg b (a.tmod b))) (K : X → St → Option (List D)) :
    ∀ (n : Nat) (a b : Int), 0 ≤ a → 0 ≤ b → b < n → rounds [0, 1] (some [0, 4]) f n (Sg a b) K = K (.exit 0) (Sgx (gcdI a b))
  | 0, a, b, _, h1, h2 => by omega
  | n + 1, a, b, h0, h1, h2 => by
    rw [rnds1, hr _ _ _ _ h1]
    by_cases hb : b = 0
    · rw [if_pos hb, hb, gcdI_zero a h0]
    · rw [if_neg hb, gcdI_step a b h0 (by omega)]
      have h3 : 0 ≤ a.tmod b := Int.tmod_nonneg _ h0
      have h4 : a.tmod b < b := Int.tmod_lt_of_pos _ (by omega)
      exact go_gcd hr K n b (a.tmod b) h1 h3 (by omega)
set_option maxRecDepth 100000 in
theorem loopg : LoopOk Cg (lg 22) := ⟨by kernel_rfl, fun q its k rr h => by
  show rounds [0, 1] (some [0, 4]) (evCode Cg 22 true (inl Cg (q + 4)) (lbody Cg.P 22 1)) 18446744073709551616 (bst (lg 22).p its) k = some rr
  change Gg its k = some rr at h
  unfold Gg at h
  split at h
  · rename_i a b
    rcases br_some h with ⟨h1, h2⟩ | ⟨_, h2⟩
    · simp only [Bool.and_eq_true, decide_eq_true_eq] at h1
      rw [← h2]
      exact go_gcd (fun a b R K hb => by
        rw [roundg]
        by_cases h0 : b = 0
        · rw [if_pos h0, show decide (b > 0) = false from decide_eq_false (by omega)]; rfl
        · rw [if_neg h0, show decide (b > 0) = true from decide_eq_true (by omega), decide_eq_false h0]; rfl) k 18446744073709551616 a b h1.1.1 h1.1.2 (by have := h1.2; exact this)
    · cases h2
  · cases h⟩
set_option maxRecDepth 100000 in
theorem looph : LoopOk Cg (lg 25) := ⟨by kernel_rfl, fun q its k rr h => by
  show rounds [0, 1] (some [0, 4]) (evCode Cg 25 true (inl Cg (q + 4)) (lbody Cg.P 25 1)) 18446744073709551616 (bst (lg 25).p its) k = some rr
  change Gg its k = some rr at h
  unfold Gg at h
  split at h
  · rename_i a b
    rcases br_some h with ⟨h1, h2⟩ | ⟨_, h2⟩
    · simp only [Bool.and_eq_true, decide_eq_true_eq] at h1
      rw [← h2]
      exact go_gcd (fun a b R K hb => by
        rw [roundh]
        by_cases h0 : b = 0
        · rw [if_pos h0, show (b != 0) = false by simpa using h0]; rfl
        · rw [if_neg h0, show (b != 0) = true by simpa using h0, decide_eq_false h0]; rfl) k 18446744073709551616 a b h1.1.1 h1.1.2 (by have := h1.2; exact this)
    · cases h2
  · cases h⟩
theorem Cg_ok : CxOk Cg := mkCx_ok enter mixed (fun p h => by cases h) (fun l h => by
  simp only [List.mem_cons, List.not_mem_nil, or_false] at h
  rcases h with rfl | rfl
  · exact loopg
  · exact looph)
def Fgcd : List D → Option (Bool × List D)
  | [.v (.int .u64 a), .v (.int .u64 b)] => some (uR a && uR b, [.v (u64 (gcdI a b))])
  | _ => none
theorem tg (a b : Int) : evF Cg 6 22 [.v (u64 a), .v (u64 b)] = br (decide (0 ≤ a) && decide (0 ≤ b) && decide (b < 18446744073709551616)) (some [.v (u64 (gcdI a b))]) none := by kernel_rfl
theorem th (a b : Int) : evF Cg 6 25 [.v (u64 a), .v (u64 b)] = br (decide (0 ≤ a) && decide (0 ≤ b) && decide (b < 18446744073709551616)) (some [.v (u64 (gcdI a b))]) none := by kernel_rfl
theorem den_gcd : Den Try.prog 22 Fgcd := evF_den Cg_ok fun ds rs h => by
  unfold Fgcd at h
  split at h
  · rename_i a b
    simp only [Option.some.injEq, Prod.mk.injEq, Bool.and_eq_true, uR_iff] at h
    obtain ⟨⟨h1, h2⟩, rfl⟩ := h
    refine (tg a b).trans ?_
    rw [show (decide (0 ≤ a) && decide (0 ≤ b) && decide (b < 18446744073709551616)) = true by simp only [Bool.and_eq_true, decide_eq_true_eq]; omega]
    rfl
  · cases h
theorem den_gcdr : Den Try.prog 25 Fgcd := evF_den Cg_ok fun ds rs h => by
  unfold Fgcd at h
  split at h
  · rename_i a b
    simp only [Option.some.injEq, Prod.mk.injEq, Bool.and_eq_true, uR_iff] at h
    obtain ⟨⟨h1, h2⟩, rfl⟩ := h
    refine (th a b).trans ?_
    rw [show (decide (0 ≤ a) && decide (0 ≤ b) && decide (b < 18446744073709551616)) = true by simp only [Bool.and_eq_true, decide_eq_true_eq]; omega]
    rfl
  · cases h
def Fsize : List D → Option (Bool × List D)
  | [.v (.int .i64 n)] => some (iR n, [.v (u64 (absI n))])
  | _ => none
theorem den_size : Den Try.prog 21 Fsize := evF_den C0_ok fun ds rs h => by
  unfold Fsize at h
  split at h
  · rename_i n
    simp only [Option.some.injEq, Prod.mk.injEq, iR_iff] at h
    obtain ⟨h1, rfl⟩ := h
    refine (tsize n).trans ?_
    unfold absI
    by_cases hn : n < 0
    · rw [if_pos hn, decide_eq_true hn, show IntKind.u64.wrap (0 - IntKind.u64.wrap n) = -n by simp only [wrapU]; omega]; rfl
    · rw [if_neg hn, decide_eq_false hn, show IntKind.u64.wrap n = n by simp only [wrapU]; omega]; rfl
  · cases h
theorem den_abs : Den Try.prog 24 Fsize := evF_den C0_ok fun ds rs h => by
  unfold Fsize at h
  split at h
  · rename_i n
    simp only [Option.some.injEq, Prod.mk.injEq, iR_iff] at h
    obtain ⟨h1, rfl⟩ := h
    refine (tabs n).trans ?_
    unfold absI
    by_cases hn : n < 0
    · rw [if_pos hn, decide_eq_true hn, show IntKind.u64.wrap (IntKind.u64.wrap (IntKind.i64.wrap (0 - IntKind.i64.wrap (n + 1))) + 1) = -n by simp only [wrapU, wrapI]; omega]; rfl
    · rw [if_neg hn, decide_eq_false hn, show IntKind.u64.wrap n = n by simp only [wrapU]; omega]; rfl
  · cases h
def Fmul : List D → Option (Bool × List D)
  | [.v (.int .u64 x), .v (.int .u64 y)] => some (uR x && uR y, [.v (u64 (x * y / 18446744073709551616)), .v (u64 (x * y % 18446744073709551616))])
  | _ => none
def Ftimes : List D → Option (Bool × List D)
  | [.v (.int .u64 x), .v (.int .u64 y)] => some (uR x && uR y, [.agg [.v (u64 (x * y / 18446744073709551616)), .v (u64 (x * y % 18446744073709551616))]])
  | _ => none
theorem den_mul : Den Try.prog 28 Fmul := evF_den C0_ok fun ds rs h => by
  unfold Fmul at h
  split at h
  · rename_i x y
    simp only [Option.some.injEq, Prod.mk.injEq, Bool.and_eq_true, uR_iff] at h
    obtain ⟨⟨⟨x0, x1⟩, y0, y1⟩, rfl⟩ := h
    refine (tmul x y).trans ?_
    rw [andM x x0 x1, andM y y0 y1, shrM x x0, shrM y y0]
    obtain ⟨p00, p01, p10, p11, h00, h01, h10, h11, b00, b01, b10, b11, hxy⟩ := mul_parts x y x0 x1 y0 y1
    rw [← h00, ← h01, ← h10, ← h11, hxy]
    clear h00 h01 h10 h11 hxy
    rw [wrapU_id (n := p00) (by omega) (by omega), wrapU_id (n := p01) (by omega) (by omega), wrapU_id (n := p10) (by omega) (by omega), wrapU_id (n := p11) (by omega) (by omega), shrM p00 (by omega),
      wrapU_id (n := p10 + p00 / 4294967296) (by omega) (by omega), andM (p10 + p00 / 4294967296) (by omega) (by omega), shrM (p10 + p00 / 4294967296) (by omega)]
    rw [wrapU_id (n := (p10 + p00 / 4294967296) % 4294967296 + p01) (by omega) (by omega), shrM ((p10 + p00 / 4294967296) % 4294967296 + p01) (by omega), wrapU, wrapU, wrapU]
    refine congrArg some ?_
    congr 1
    · refine congrArg (fun n => D.v (u64 n)) ?_
      omega
  · cases h
end Go.Proofs.Ytofkkhdmjllcfaa

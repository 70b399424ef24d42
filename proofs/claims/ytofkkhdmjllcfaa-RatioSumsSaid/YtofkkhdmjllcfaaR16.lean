/- Rests, comparisons; the reference's long division. No conditions. -/
import Derived.Test.YtofkkhdmjllcfaaR15
namespace Go.Proofs.Ytofkkhdmjllcfaa
open Go.Ev
set_option linter.all false
noncomputable def C9 : Cx := mkCx Try.prog fns [(34, Fdv)] []
theorem C9_ok : CxOk C9 := mkCx_ok enter mixed (fun p h => by
  simp only [List.mem_cons, List.not_mem_nil, or_false] at h
  rcases h with rfl
  exact den_div64) (fun l h => by cases h)
theorem trem (h l y : Int) : evF C9 6 33 [.v (u64 h), .v (u64 l), .v (u64 y)] =
    br (decide (y = 0)) (none) (br (uR (h.tmod y) && uR l && uR y && decide (h.tmod y < y)) (some [.v (.int .u64 (wd (h.tmod y) l % y))]) (none)) := by kernel_rfl
theorem tcmpi (a b : Int) : evF C0 6 40 [.v (i64 a), .v (i64 b)] =
    br (a != a) (br (b != b) (some [.v (i64 (0))]) (some [.v (i64 (-1))])) (br (b != b) (some [.v (i64 (1))]) (br (decide (a < b)) (some [.v (i64 (-1))]) (br (decide (a > b)) (some [.v (i64 (1))]) (some [.v (i64 (0))])))) := by kernel_rfl
theorem tcmpu (a b : Int) : evF C0 6 42 [.v (u64 a), .v (u64 b)] =
    br (a != a) (br (b != b) (some [.v (i64 (0))]) (some [.v (i64 (-1))])) (br (b != b) (some [.v (i64 (1))]) (br (decide (a < b)) (some [.v (i64 (-1))]) (br (decide (a > b)) (some [.v (i64 (1))]) (some [.v (i64 (0))])))) := by kernel_rfl
theorem tneg (a b : Int) : evF C0 6 39 [.agg [.v (i64 a), .v (i64 b)]] =
    some [.agg [.v (i64 (IntKind.i64.wrap (0 - a))), .v (i64 (b))]] := by kernel_rfl
def Frem : List D → Option (Bool × List D)
  | [.v (.int .u64 h), .v (.int .u64 l), .v (.int .u64 y)] => some (uR h && uR l && uR y && decide (0 < y), [.v (u64 (wd h l % y))])
  | _ => none
/-- How two numbers stand. -/
def cmpI (a b : Int) : Int := if a < b then -1 else if b < a then 1 else 0
def Fcmpi : List D → Option (Bool × List D)
  | [.v (.int .i64 a), .v (.int .i64 b)] => some (true, [.v (i64 (cmpI a b))])
  | _ => none
def Fcmpu : List D → Option (Bool × List D)
  | [.v (.int .u64 a), .v (.int .u64 b)] => some (true, [.v (i64 (cmpI a b))])
  | _ => none
theorem den_cmpi : Den Try.prog 40 Fcmpi := evF_den C0_ok fun ds rs h => by
  unfold Fcmpi at h
  split at h
  · rename_i a b
    simp only [Option.some.injEq, Prod.mk.injEq] at h
    obtain ⟨_, rfl⟩ := h
    refine (tcmpi a b).trans ?_
    rw [show (a != a) = false by simp, show (b != b) = false by simp, br_false, br_false]
    unfold cmpI
    refine br_splitP (fun h => ?_) (fun h => br_splitP (fun h' => ?_) (fun h' => ?_))
    · rw [if_pos h]
    · rw [if_neg h, if_pos h']
    · rw [if_neg h, if_neg h']
  · cases h
theorem den_cmpu : Den Try.prog 42 Fcmpu := evF_den C0_ok fun ds rs h => by
  unfold Fcmpu at h
  split at h
  · rename_i a b
    simp only [Option.some.injEq, Prod.mk.injEq] at h
    obtain ⟨_, rfl⟩ := h
    refine (tcmpu a b).trans ?_
    rw [show (a != a) = false by simp, show (b != b) = false by simp, br_false, br_false]
    unfold cmpI
    refine br_splitP (fun h => ?_) (fun h => br_splitP (fun h' => ?_) (fun h' => ?_))
    · rw [if_pos h]
    · rw [if_neg h, if_pos h']
    · rw [if_neg h, if_neg h']
  · cases h
def sixty (i : Int) : Int := IntKind.i64.wrap ((BitVec.ofInt 64 i &&& BitVec.ofInt 64 63).toNat : Int)
def bitOf (x i : Int) : Int := wu ((BitVec.ofInt 64 (x.fdiv (2 ^ min (sixty i).toNat 64)) &&& BitVec.ofInt 64 1).toNat : Int)
def restN (r b : Int) : Int := wu ((BitVec.ofInt 64 (wu (r * 2 ^ 1)) ||| BitVec.ofInt 64 b).toNat : Int)
def S4 (d r i qh ql h l : Int) : St := ⟨us 1 ++ [.int .u64 d, .pointer (some ⟨0, 0, some 0⟩)] ++ us 1 ++ [.pointer (some ⟨1, 0, some 0⟩)] ++ us 1 ++ [.pointer (some ⟨2, 0, some 0⟩), .int .u64 r, i64 i] ++ us 38, [[]], [some (.box [.int .u64 h, .int .u64 l]), some (.box [.int .u64 0, .int .u64 0]), some (.box [.int .u64 qh, .int .u64 ql])]⟩
def S4x (r qh ql : Int) : St := ⟨us 4 ++ [.pointer (some ⟨0, 0, some 0⟩)] ++ us 1 ++ [.pointer (some ⟨1, 0, some 0⟩), .int .u64 r] ++ us 39, [[]], [some (.box [.int .u64 0, .int .u64 0]), some (.box [.int .u64 qh, .int .u64 ql])]⟩
def rT (d r i qh ql h l : Int) (R : St → Option (List D)) (x : Int) : Option (List D) :=
  br (uR qh && uR ql && uR qh && uR ql && decide (wd qh ql + wd qh ql < 340282366920938463463374607431768211456))
    (br (decide (restN r (bitOf x i) ≥ d)) (R (S4 d (wu (restN r (bitOf x i) - d)) (IntKind.i64.wrap (i - 1)) ((wd qh ql + wd qh ql) / 18446744073709551616) (wu ((BitVec.ofInt 64 ((wd qh ql + wd qh ql) % 18446744073709551616) ||| BitVec.ofInt 64 1).toNat : Int)) h l))
      (R (S4 d (restN r (bitOf x i)) (IntKind.i64.wrap (i - 1)) ((wd qh ql + wd qh ql) / 18446744073709551616) ((wd qh ql + wd qh ql) % 18446744073709551616) h l))) none
noncomputable def C10g (cd : Bool → Int → Int → Bool) : Cx := mkCx Try.prog fns [(35, Fplus)] []
noncomputable def C10 : Cx := mkCx Try.prog fns [(35, Fplus)] []
set_option maxRecDepth 100000 in
theorem round4 (q : Nat) (R : St → Option (List D)) (K : X → St → Option (List D)) (d r i qh ql h l : Int) : evCode C10 38 true (inl C10 (q + 4)) (lbody C10.P 38 4) (S4 d r i qh ql h l) (rnd [1, 2, 4, 6, 7, 8] (some [4, 5, 6, 7]) R K) =
    br (decide (i ≥ 0)) (br (decide (sixty i < 0)) none (br (decide (i ≥ 64)) (br (decide (sixty i < 0)) none (rT d r i qh ql h l R h)) (rT d r i qh ql h l R l))) (K (.exit 0) (S4x r qh ql)) := by kernel_rfl
end Go.Proofs.Ytofkkhdmjllcfaa

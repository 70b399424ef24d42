/- Shares of the reference. No conditions. -/
import Derived.Test.YtpblmkephkhlkaaL7
namespace Go.Proofs.Ytpblmkephkhlkaa
open Go.Ev

def S12 (n len : Nat) (b c j : Int) (r o : Row) : St := { τ := us 3 ++ [.pointer (some ⟨0, 0, some 0⟩)] ++ us 2 ++ [.slice (some ⟨1, 0, some 0⟩) n 0, i64 j] ++ us 48, saved := [[]], mem := mem11 b c len r o }
def S12x (n : Nat) (o : Row) : St := { τ := us 6 ++ [.slice (some ⟨0, 0, some 0⟩) n 0] ++ us 49, saved := [[]], mem := [some (.row [.int .i64] true o)] }
def G12 : List It → (X → St → Option (List D)) → Option (List D)
  | [.n n, .i _, .i c, .n len, .r o, .r r], k => br (good11 n len c r) (k (.exit 0) (S12x n (shs r c len len 0 o))) none
  | _, _ => none
def l12 : LoopC where
  f := 12
  id := 7
  lv := [3, 6, 7]
  lx := [4, 5, 6]
  p := { τ := pu 3 ++ [.v (.c (.pointer (some ⟨0, 0, some 0⟩)))] ++ pu 2 ++ [.v (.sl 1), .v (.c (i64 0))] ++ pu 48, saved := [[]], mem := pm11 }
  G := G12
noncomputable def C12 : Cx := mkCx Try.prog fns [(21, F20)] [l12]

def o1 (r : Row) (c : Int) (len j : Nat) (o : Row) : Row := o.setI (0 + (r.I (0 + j) 0).toNat) 0 (IntKind.i64.wrap (c.tdiv len))
def o2 (r : Row) (c : Int) (len j : Nat) (o : Row) : Row := (o1 r c len j o).setI (0 + (r.I (0 + j) 0).toNat) 0 (IntKind.i64.wrap ((o1 r c len j o).I (0 + (r.I (0 + j) 0).toNat) 0 + 1))
theorem round12 (d : Nat) (R : St → Option (List D)) (K : X → St → Option (List D)) (n len : Nat) (b c : Int) (j : Nat) (r o : Row) :
    evCode C12 12 true (inl C12 (d + 4)) (lbody C12.P 12 7) (S12 n len b c j r o) (rnd [3, 6, 7] (some [4, 5, 6]) R K) =
    br (decide ((j : Int) < len)) (br (decide (0 ≤ (j : Int)) && decide ((j : Int) < len)) (br (decide ((len : Int) = 0)) none (br (inR n (r.I (0 + j) 0)) (br (decide ((len : Int) = 0)) none (br (decide ((j : Int) < c.tmod len))
      (br (decide (0 ≤ (j : Int)) && decide ((j : Int) < len)) (br (inR n (r.I (0 + j) 0)) (br (inR n (r.I (0 + j) 0)) (R (S12 n len b c (IntKind.i64.wrap (j + 1)) r (o2 r c len j o))) none) none) none)
      (R (S12 n len b c (IntKind.i64.wrap (j + 1)) r (o1 r c len j o))))) none)) none) (K (.exit 0) (S12x n o)) := by kernel_rfl

theorem loop12 : LoopOk C12 l12 := ⟨by kernel_rfl, fun d its k rr h => by
  show rounds [3, 6, 7] (some [4, 5, 6]) (evCode C12 12 true (inl C12 (d + 4)) (lbody C12.P 12 7)) 18446744073709551616 (bst l12.p its) k = some rr
  change G12 its k = some rr at h
  unfold G12 at h
  split at h
  · rename_i n b c len o r
    rcases br_some h with ⟨h1, h2⟩ | ⟨_, h2⟩
    · simp only [good11, Bool.and_eq_true, decide_eq_true_eq, Bool.not_eq_true'] at h1
      obtain ⟨⟨⟨h4, h5⟩, h6⟩, hb⟩ := h1
      rw [← h2]
      have key := rounds_run (lv := [3, 6, 7]) (lx := some [4, 5, 6]) (f := evCode C12 12 true (inl C12 (d + 4)) (lbody C12.P 12 7)) (S := fun j o => S12 n len b c j r o) (len := len)
        (T := fun j o R _ => br (inR n (r.I (0 + j) 0)) (R (shStep r c len j o)) none) (E := fun o K => K (.exit 0) (S12x n o))
        (fun j hj o R K => by
          obtain ⟨b1, b2, b3, b4, _⟩ := div_facts h5 hj
          have e1 : o1 r c len j o = o.setI (0 + (r.I (0 + j) 0).toNat) 0 (c / len) := by
            unfold o1
            rw [Int.tdiv_eq_ediv_of_nonneg (by omega), wrap64 (by omega) (by omega)]
          have e2 : o2 r c len j o = o.setI (0 + (r.I (0 + j) 0).toNat) 0 (c / len + 1) := by
            unfold o2
            rw [e1, setI_self, setI_setI, wrap64 (by omega) (by omega)]
          rw [round12, wrap64 (n := (j : Int) + 1) (by omega) (by omega), e1, e2, Int.tmod_eq_emod_of_nonneg (by omega), show decide ((len : Int) = 0) = false by simp; omega, show (decide (0 ≤ (j : Int)) && decide ((j : Int) < len)) = true by simp; omega, show decide ((j : Int) < (len : Int)) = true by simpa using hj]
          unfold shStep sh
          simp only [br_true, br_false]
          by_cases hlt : (j : Int) < c % len
          · rw [if_pos hlt, decide_eq_true hlt]
            cases inR n (r.I (0 + j) 0) <;> rfl
          · rw [if_neg hlt, decide_eq_false hlt, Int.add_zero]
            cases inR n (r.I (0 + j) 0) <;> rfl)
        (fun o R K => by
          rw [round12, show decide ((len : Int) < (len : Int)) = false by simp]
          rfl) (fun j o R R' K hR => by simp only [hR]) k len 0 o (by omega) 18446744073709551616 (by omega)
      rw [runL_shs n r c len _ k len 0 o hb] at key
      exact key
    · cases h2
  · cases h⟩

theorem C12_ok : CxOk C12 := mkCx_ok enter mixed (fun p h => by
  simp only [List.mem_singleton] at h
  subst h
  exact den21) (fun l h => by
  simp only [List.mem_singleton] at h
  subst h
  exact loop12)

theorem t12 (n b c : Int) (r : Row) : evF C12 6 12 [.v (i64 n), ex b c r] =
    br (decide (n ≥ 1)) (br (!decide (n ≤ 10)) (some [.slice [.int .i64] .nil, .v (i64 2)]) (br (partiesB n && decide (r.n ≤ 1000)) (br (!expB n b c r) (some [.slice [.int .i64] .nil, .v (i64 8)])
      (br (decide (0 ≤ n) && decide (n ≤ n) && decide (n ≤ 100000000000)) (br (good11 n.toNat r.n c r)
        (some [.slice [.int .i64] (winOf (shs r c r.n r.n 0 (.zeros n.toNat)) 0 n.toNat), .v (i64 0)]) none) none)) none)) (some [.slice [.int .i64] .nil, .v (i64 2)]) := by kernel_rfl

theorem den12 : Den Try.prog 12 F11 := evF_den C12_ok fun ds rs h => by
  unfold F11 at h
  split at h
  · rename_i n b c r
    simp only [Option.some.injEq, Prod.mk.injEq, decide_eq_true_eq] at h
    obtain ⟨hr, rfl⟩ := h
    refine (t12 n b c r).trans ?_
    cases hp : partiesB n
    · have e3 : shE n b c r = 2 := by simp [shE, hp]
      unfold shR
      rw [e3]
      unfold partiesB at hp
      cases h1 : decide (n ≥ 1)
      · rfl
      · cases h2 : decide (n ≤ 10)
        · rfl
        · simp [h1, h2] at hp
    · have hp' := hp
      unfold partiesB at hp'
      simp only [Bool.and_eq_true] at hp'
      rw [hp'.1, hp'.2, show decide (r.n ≤ 1000) = true by simpa using hr]
      cases he : expB n b c r
      · have e3 : shE n b c r = 8 := by simp [shE, hp, he]
        unfold shR
        rw [e3]
        rfl
      · have e3 : shE n b c r = 0 := by simp [shE, hp, he]
        obtain ⟨g1, g2, _⟩ := exp_good hp he hr
        unfold shR
        rw [e3, g1, g2]
        rfl
  · cases h
end Go.Proofs.Ytpblmkephkhlkaa

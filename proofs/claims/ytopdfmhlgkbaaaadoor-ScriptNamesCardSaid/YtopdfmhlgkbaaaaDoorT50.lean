/- line: its contract, walked by hand. No conditions. -/
import Derived.WalkKit
import Derived.BigCall
import Derived.Test.YtopdfmhlgkbaaaaDoorMD
namespace Go.Proofs.YtopdfmhlgkbaaaaDoor
open Go.Ev Go.RowKit Go.Lib Go.Dec
set_option linter.all false
def Fline : List D → Option (Bool × List D)
  | [.v (.int .u8 w), .slice [.str] nm, .slice [.int .i64] nu] => some (okL (lnR w nm nu), [.v (i64 (naE (lnR w nm nu)))])
  | _ => none
set_option maxHeartbeats 4000000 in
set_option maxRecDepth 1000000 in
theorem line_walk (w : World) (n : Int) (a1 a2 : Option Addr) (n1 p1 n2 p2 : Nat) (ec : Int)
    (hchk : ∀ T, Calls Tryd.prog 15 #[.slice (some ⟨w.heap.size, 0, none⟩) 1 1] (w.alloc (.cells #[.int .u8 n, .slice a1 n1 p1, .slice a2 n2 p2] T)) fun e w' => e = .returned (.int .i64 ec) ∧ Below w.heap.size w w') :
    Calls Tryd.prog 20 #[.int .u8 n, .slice a1 n1 p1, .slice a2 n2 p2] w fun e w' => e = .returned (.int .i64 ec) ∧ Below w.heap.size w w' := by
  go_enter Tryd.func20, Tryd.ntmps20
  go_wp2_with (go_at_call 15; refine (hchk _).mono ?_)
  rintro e w1 ⟨rfl, hb1⟩
  go_wp2
  go_ret
  exact ⟨rfl, hb1⟩
theorem den_line : Den Tryd.prog 20 Fline := by
  intro wb ds rs hF w hwb args vs mem ρ hfrom hm hl hv
  unfold Fline at hF
  split at hF
  · rename_i n nm nu
    simp only [Option.some.injEq, Prod.mk.injEq] at hF
    obtain ⟨h0, rfl⟩ := hF
    have e1 : vs = [.int .u8 n, .slice (some ⟨0, 0, some 0⟩) nm.n 0, .slice (some ⟨1, 0, some 0⟩) nu.n 0] ∧ mem = [some (.row [.str] false nm), some (.row [.int .i64] false nu)] := by
      have : fromDs false [D.v (.int .u8 n), D.slice [.str] nm, D.slice [.int .i64] nu] [] = some ([.int .u8 n, .slice (some ⟨0, 0, some 0⟩) nm.n 0, .slice (some ⟨1, 0, some 0⟩) nu.n 0], [some (.row [.str] false nm), some (.row [.int .i64] false nu)]) := rfl
      rw [this] at hfrom
      simp only [Option.some.injEq, Prod.mk.injEq] at hfrom
      exact ⟨hfrom.1.symm, hfrom.2.symm⟩
    obtain ⟨rfl, rfl⟩ := e1
    obtain ⟨c0, c1, c2, rfl⟩ : ∃ c0 c1 c2, args = [c0, c1, c2] := by
      match args, hl with
      | [c0, c1, c2], _ => exact ⟨c0, c1, c2, rfl⟩
    have v0 := hv 0 _ c0 rfl rfl
    have v1 := hv 1 _ c1 rfl rfl
    have v2 := hv 2 _ c2 rfl rfl
    cases v0
    obtain ⟨L1, hL1, hn1, hz1, _, hr1, _⟩ := hm.blk 0 _ rfl
    obtain ⟨L2, hL2, hn2, hz2, _, hr2, _⟩ := hm.blk 1 _ rfl
    cases v1 with
    | sliceDead _ h2 => rw [hL1] at h2; cases h2
    | @slice _ _ _ M1 a1 cap1 _ g2 g3 g4 g5 g6 =>
    cases v2 with
    | sliceDead _ h2 => rw [hL2] at h2; cases h2
    | @slice _ _ _ M2 a2 cap2 _ k2 k3 k4 k5 k6 =>
    obtain rfl : M1 = L1 := by rw [hL1] at g2; cases g2; rfl
    obtain rfl : M2 = L2 := by rw [hL2] at k2; cases k2; rfl
    have hno : NonOwn [some (Blk.row [CK.str] false nm), some (Blk.row [CK.int .i64] false nu)] := fun id b h => by
      match id, h with
      | 0, h => simp at h; subst h; rfl
      | 1, h => simp at h; subst h; rfl
    refine (line_walk w _ _ _ _ _ _ _ (naE (lnR n nm nu)) fun T => ?_).mono fun e w' ⟨he, hb⟩ => ⟨_, he, hb, [i64 (naE (lnR n nm nu))], [], fun _ => none, rfl, ⟨fun id b h => by simp at h, fun _ _ => rfl, fun i j b h => by obtain ⟨_, _, h1, _⟩ := h; cases h1⟩, .int⟩
    generalize hw1 : w.alloc (.cells #[.int .u8 n, .slice a1 nm.n cap1, .slice a2 nu.n cap2] T) = w1
    have hbw : Below w.heap.size w w1 := by rw [← hw1]; exact (Below.refl _ w).alloc (Nat.le_refl _) _
    have hsz : w1.heap.size = w.heap.size + 1 := by rw [← hw1]; show (w.heap.push _).size = _; simp
    have hcell : ∀ j, w1.cell? ⟨w.heap.size, j, none⟩ = (#[Value.int .u8 n, .slice a1 nm.n cap1, .slice a2 nu.n cap2])[j]? := fun j => by
      rw [← hw1]
      exact World.cell?_alloc_new _ _ _ _
    have hmem0 : MemR [] (fun _ => none) w1.heap.size w1 := ⟨fun id b h => by simp at h, fun _ _ => rfl, fun i j b h => by obtain ⟨_, _, h1, _⟩ := h; cases h1⟩
    have hno1 : NonOwn ([] ++ [some (Blk.row ksL false (lnR n nm nu))]) := NonOwn.snoc (fun id b h => by simp at h) rfl
    have hmem := hmem0.alloc (blk := .row ksL false (lnR n nm nu)) (L := ⟨w.heap.size, 0, 3, 0, 1, false, s0⟩) (Below.refl _ _) (fun h => by cases h) ⟨rfl, rfl, (fun hf => by cases hf), fun h0 => ⟨fun _ => hno1.ok (by show w.heap.size < _; omega), by
      refine .mk (fun e j => (#[Value.int .u8 n, .slice a1 nm.n cap1, .slice a2 nu.n cap2]).getD j undef) (fun e j k he hk => ?_) (fun e j k he hk => ?_)
      · replace he : e < 1 := he
        have : e = 0 := by omega
        subst this
        have hj : j < 3 := by
          rcases Nat.lt_or_ge j 3 with h | h
          · exact h
          · rw [List.getElem?_eq_none (show ksL.length ≤ j from h)] at hk; cases hk
        have := hcell (0 + 0 * ksL.length + j)
        rw [show 0 + 0 * ksL.length + j = j by omega] at this ⊢
        rw [this, Array.getD_eq_getD_getElem?]
        rw [Array.getElem?_eq_getElem (by simpa using hj)]
        rfl
      · replace he : e < 1 := he
        have : e = 0 := by omega
        subst this
        match j, hk with
        | 0, hk => cases hk; exact .int
        | 1, hk =>
          cases hk
          show CellR _ _ (.slice [.str]) (lnR n nm nu) 0 1 (.slice a1 nm.n cap1)
          by_cases hp : 0 < nm.n
          · rw [g5 hp]
            obtain ⟨q1, q2⟩ := hr1 hp
            have hlt := (q1 rfl).1
            have : (Loc.adr M1 0 0) = ⟨M1.b, M1.off, none⟩ := by unfold Loc.adr; rw [Nat.zero_mul, Nat.add_zero]
            rw [this]
            exact .slice rfl g4 (hno1.ok (by omega)) (q2.mono (fun b hb => ⟨hno1.ok (by have := hb.1; omega), hbw.block b hb.1⟩) (hbw.block _ hlt))
          · have hz : nm.n = 0 := by omega
            rw [hz]
            exact .slice0 hz
        | 2, hk =>
          cases hk
          show CellR _ _ (.slice [.int .i64]) (lnR n nm nu) 0 2 (.slice a2 nu.n cap2)
          by_cases hp : 0 < nu.n
          · rw [k5 hp]
            obtain ⟨q1, q2⟩ := hr2 hp
            have hlt := (q1 rfl).1
            have : (Loc.adr M2 0 0) = ⟨M2.b, M2.off, none⟩ := by unfold Loc.adr; rw [Nat.zero_mul, Nat.add_zero]
            rw [this]
            exact .slice rfl k4 (hno1.ok (by omega)) (q2.mono (fun b hb => ⟨hno1.ok (by have := hb.1; omega), hbw.block b hb.1⟩) (hbw.block _ hlt))
          · have hz : nu.n = 0 := by omega
            rw [hz]
            exact .slice0 hz⟩, rfl⟩
    have hc := den_check w1 [.slice ksL (lnR n nm nu)] [.v (i64 (naE (lnR n nm nu)))] (by show some (decide ((lnR n nm nu).n > 200) || okL (lnR n nm nu), _) = _; rw [h0, Bool.or_true]) w1 (Below.refl _ _) [.slice (some ⟨w.heap.size, 0, none⟩) 1 1] [.slice (some ⟨0, 0, some 0⟩) 1 0] _ _ rfl hmem rfl (fun i x c hx hc => by
      match i, hx, hc with
      | 0, hx, hc =>
        simp at hx hc
        subst hx hc
        exact .slice (L := ⟨w.heap.size, 0, 3, 0, 1, false, s0⟩) (by simp) Map.snoc_new (by simp) (Nat.le_refl _) (fun _ => rfl) (fun h => by cases h))
    refine hc.mono fun e w' ⟨cv, he, hb, us, mem', ρ', hf, _, hcv⟩ => ?_
    have e2 : us = [i64 (naE (lnR n nm nu))] := by
      have : fromDs true [D.v (i64 (naE (lnR n nm nu)))] [] = some ([i64 (naE (lnR n nm nu))], []) := rfl
      rw [this] at hf
      simp only [Option.some.injEq, Prod.mk.injEq] at hf
      exact hf.1.symm
    subst e2
    have hcv : V ρ' mem'.length (.int .i64 (naE (lnR n nm nu))) cv := hcv
    cases hcv
    exact ⟨he, hbw.trans (hb.mono hbw.size)⟩
  · cases hF
end Go.Proofs.YtopdfmhlgkbaaaaDoor

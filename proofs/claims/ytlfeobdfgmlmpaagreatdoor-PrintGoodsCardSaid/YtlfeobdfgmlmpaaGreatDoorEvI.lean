/- Stores, appends and new rows: the machine does what the evaluator says. No conditions. -/
import Derived.Test.YtlfeobdfgmlmpaaGreatDoorEvH
namespace Go.Ev
open Go.RowKit
section
variable {P : Program} {mem mem' : List (Option Blk)} {ρ ρ' : Map} {B : Nat} {w w' : World}

theorem run_storeAt {t : TypeId} {i : TypeInfo} (hi : P.info? t = some i) {b o : Nat} {cv : Value} (hs : cv.cells.size = i.size) {c : Array Value} {T : TypeId} (hg : w.heap[b]? = some (.cells c T (0, 0))) (hl : o + cv.cells.size ≤ c.size) (h1 : ∀ v ∈ cv.cells.toList, v.oneCell' = true) :
    (Instr.storeAt t (.pointer (some ⟨b, o, none⟩)) cv).run P w = .ok () (w.setCells b o cv.cells.toList) := by
  have h2 := run_storeCells_cells (P := P) b o cv.cells.toList 0 w (fun j hj => by simp [World.cell?, hg]; simp at hj; omega) (fun j hj => by simp [World.frozen?, hg]) h1
  simp [Instr.storeAt, Instr.sureAddr, storeVar, run_sizeOf hi, hs, h2]

theorem storeV_sound {mem1 : List (Option Blk)} {t : TypeId} {x v cx cv : Value} (h : storeV P mem t x v = some mem1) (hm : MemR mem ρ B w) (hx : V ρ mem.length x cx) (hv : V ρ mem.length v cv) :
    ∃ w' ρ1, (Instr.storeAt t cx cv).run P w = .ok () w' ∧ MemR mem1 ρ1 B w' ∧ mem1.length = mem.length ∧ (∀ i, Less ρ ρ1 i) ∧ ∀ W0, Below B W0 w → Below B W0 w' := by
  unfold storeV at h
  split at h
  · rename_i id e j i hi hone
    have hunk := one_unk hone
    obtain ⟨hlen, hcells⟩ := hv.cells hunk
    have hones : ∀ u ∈ cv.cells.toList, u.oneCell' = true := by
      intro u hu
      obtain ⟨n, hn⟩ := List.getElem?_of_mem hu
      have hlt : n < (lcells v).length := by
        rw [hlen]
        have := (List.getElem?_eq_some_iff.1 hn).1
        simpa using this
      have h1 := hcells n _ u (List.getElem?_eq_getElem hlt) (by simpa using hn)
      exact cell1_one h1 (List.all_eq_true.1 hone _ (List.getElem_mem hlt))
    split at h
    · rename_i hsz0
      obtain ⟨hsz, hpos⟩ := hsz0
      split at h
      · rename_i cells hb
        split at h
        · rename_i hle
          cases h
          obtain ⟨L, hL, hbr⟩ := hm.blk _ _ hb
          obtain ⟨h1, h2, h3, h4, c, T, h5, h6, h7, h0⟩ := hbr
          cases hx with
          | ptrDead g1 g2 => exact absurd g2 (live_of hm hb)
          | @ptr _ _ _ M g1 g2 g3 =>
            rw [hL] at g2
            cases g2
            have he0 : e = 0 := by omega
            subst he0
            have hadr : L.adr 0 j = ⟨L.b, j, none⟩ := by simp [Loc.adr, h2]
            have hfit : j + cv.cells.size ≤ c.size := by omega
            obtain ⟨c', k1, k2, k3, k4, k5⟩ := setCells_block cv.cells.toList j w c h5 (by simpa using hfit)
            refine ⟨_, ρ, by rw [hadr]; exact run_storeAt hi (by omega) h5 hfit hones, ?_, by simp, fun _ => .inl rfl, fun W0 hW => below_setCells hW h1⟩
            refine hm.write hb (fun _ _ _ h => by cases h) rfl hL h0 h4 k4 k5 ⟨h1, h2, h3, h4, c', T, k1, by simp; omega, fun n p q hp hq => ?_, h0⟩
            rw [k3] at hq
            simp only [List.length_set]
            rw [List.append_assoc, List.getElem?_append] at hp
            simp only [List.length_take] at hp
            by_cases hn1 : n < j
            · rw [if_pos (by omega)] at hp
              rw [if_neg (by omega)] at hq
              rw [List.getElem?_take, if_pos hn1] at hp
              exact h7 n p q hp hq
            · rw [if_neg (by omega), List.getElem?_append] at hp
              by_cases hn2 : n < j + cv.cells.size
              · rw [if_pos (by omega)] at hp
                rw [if_pos (by simp; omega)] at hq
                rw [show n - min j cells.length = n - j by omega] at hp
                exact hcells (n - j) p q hp (by simpa using hq)
              · rw [if_neg (by omega)] at hp
                rw [if_neg (by simp; omega)] at hq
                rw [List.getElem?_drop] at hp
                rw [show j + i.size + (n - min j cells.length - (lcells v).length) = n by omega] at hp
                exact h7 n p q hp hq
        · cases h
      · rename_i ks r hb
        split at h
        · rename_i r1 mem2 hset
          split at h
          · rename_i ks' r' hb2
            cases h
            obtain ⟨ρ1, k1, k2, k3, k4, k5, k6⟩ := setCells_sound (w := w) (lcells v) mem mem2 ρ r r1 j (ks.drop j) cv.cells.toList hset hm (by simp [hlen]) (fun n p q hp hq => hcells n p q hp (by simpa using hq))
            obtain ⟨L, hL, hbr⟩ := hm.blk _ _ hb
            have hkeep : mem2[id]? = mem[id]? ∧ ρ1 id = ρ id := by
              rcases k1.blk id with h1 | ⟨ks2, r2, h1⟩
              · exact h1
              · rw [h1] at hb2; cases hb2
            rw [hkeep.1, hb] at hb2
            cases hb2
            cases hx with
            | ptrDead g1 g2 => exact absurd g2 (live_of hm hb)
            | @ptr _ _ _ M g1 g2 g3 =>
              rw [hL] at g2
              cases g2
              obtain ⟨b1, b2, b3, b4, b0⟩ := hbr
              have hn : 0 < r.n := by omega
              obtain ⟨b5, b6, b7⟩ := b3 rfl
              obtain ⟨b8, c, T, b9, b10⟩ := b7 (by omega)
              simp only [List.length_drop] at k4
              have hrow : e * L.sz + L.sz ≤ L.tot * L.sz := by
                have : (e + 1) * L.sz ≤ L.tot * L.sz := Nat.mul_le_mul_right _ (by omega)
                rwa [Nat.add_mul, Nat.one_mul] at this
              have hfit' : L.off + e * L.sz + j + cv.cells.size ≤ c.size := by omega
              obtain ⟨c', q1, q2, q3, q4, q5⟩ := setCells_block cv.cells.toList (L.off + e * L.sz + j) w c b9 (by simpa using hfit')
              refine ⟨_, ρ1, run_storeAt hi (by omega) b9 hfit' hones, ?_, by simp [k1.len], k1.less, fun W0 hW => below_setCells hW b8⟩
              have hL1 : ρ1 id = some L := hkeep.2.trans hL
              have hb1 : mem2[id]? = some (some (.row ks true r)) := hkeep.1.trans hb
              refine k2.write hb1 (fun _ _ _ h => by cases h) rfl hL1 b0 (by omega) q4 q5 ⟨by omega, b2, fun _ => ⟨b5, by omega, fun _ => ⟨b8, c', T, q1, by omega⟩⟩, fun _ => ⟨(fun hf => by cases hf), ?_⟩, b0⟩
              have hO : Owned mem2 ρ1 id L.b := ⟨L, _, hL1, hb1, rfl, .inl ⟨by omega, rfl⟩⟩
              have hok : ∀ b, okB mem2 ρ1 w b → okB (mem2.set id (some (.row ks true r1))) ρ1 (w.setCells L.b (L.off + e * L.sz + j) cv.cells.toList) b ∧ (w.setCells L.b (L.off + e * L.sz + j) cv.cells.toList).heap[b]? = w.heap[b]? := by
                intro b hb'
                refine ⟨⟨by rw [q5]; exact hb'.1, fun n ⟨M, blk, m1, m3, m4, m2⟩ => ?_⟩, q4 b fun e' => hb'.2 id (e' ▸ hO)⟩
                rcases get_set m3 with ⟨m5, m6⟩ | ⟨m5, m6, _⟩
                · exact hb'.2 n ⟨M, blk, m1, m6, m4, m2⟩
                · subst m5
                  exact hb'.2 n ⟨M, _, m1, hb1, rfl, m2⟩
              cases (b4 hn).2 with
              | mk v0 v1 v2 =>
                have hcell : ∀ (e' j' : Nat) (k : CK), e' < r.n → ks[j']? = some k → c[L.off + e' * L.sz + j']? = some (v0 e' j') := by
                  intro e' j' k he hk
                  have := v1 e' j' k he hk
                  rw [← b2] at this
                  simpa [World.cell?, b9] using this
                refine .mk (fun e' j' => if e' = e ∧ j ≤ j' ∧ j' < j + cv.cells.size then cv.cells.toList.getD (j' - j) undef else v0 e' j') (fun e' j' k he hk => ?_) (fun e' j' k he hk => ?_)
                · have hj' : j' < L.sz := by rw [b2]; exact (List.getElem?_eq_some_iff.1 hk).1
                  have hc := hcell e' j' k (by omega) hk
                  simp only [World.cell?, q1, Option.isSome_none, Bool.false_eq_true, if_false, q3]
                  rw [← b2]
                  by_cases hin : e' = e ∧ j ≤ j' ∧ j' < j + cv.cells.size
                  · obtain ⟨rfl, p1, p2⟩ := hin
                    rw [if_pos (by simp; omega), if_pos ⟨rfl, p1, p2⟩]
                    rw [show L.off + e' * L.sz + j' - (L.off + e' * L.sz + j) = j' - j by omega]
                    have : j' - j < cv.cells.toList.length := by simp; omega
                    rw [List.getElem?_eq_getElem this, List.getD_eq_getElem?_getD, List.getElem?_eq_getElem this, Option.getD_some]
                  · rw [if_neg hin, if_neg, hc]
                    rintro ⟨p1, p2⟩
                    simp at p2
                    apply hin
                    have hee : e' = e := by
                      rcases Nat.lt_trichotomy e' e with hlt | heq | hgt
                      · exfalso
                        have : (e' + 1) * L.sz ≤ e * L.sz := Nat.mul_le_mul_right _ (by omega)
                        rw [Nat.add_mul, Nat.one_mul] at this
                        omega
                      · exact heq
                      · exfalso
                        have : (e + 1) * L.sz ≤ e' * L.sz := Nat.mul_le_mul_right _ (by omega)
                        rw [Nat.add_mul, Nat.one_mul] at this
                        omega
                    subst hee
                    exact ⟨rfl, by omega, by omega⟩
                · by_cases hin : e' = e ∧ j ≤ j' ∧ j' < j + cv.cells.size
                  · obtain ⟨rfl, p1, p2⟩ := hin
                    have hif : (if e' = e' ∧ j ≤ j' ∧ j' < j + cv.cells.size then cv.cells.toList.getD (j' - j) undef else v0 e' j') = cv.cells.toList.getD (j' - j) undef := if_pos ⟨rfl, p1, p2⟩
                    show CellR _ _ k r1 e' j' (if e' = e' ∧ j ≤ j' ∧ j' < j + cv.cells.size then cv.cells.toList.getD (j' - j) undef else v0 e' j')
                    rw [hif]
                    have hlt : j' - j < cv.cells.toList.length := by simp; omega
                    have hc2 : cv.cells.toList[j' - j]? = some (cv.cells.toList.getD (j' - j) undef) := by
                      rw [List.getD_eq_getElem?_getD, List.getElem?_eq_getElem hlt, Option.getD_some]
                    have := k6 (j' - j) k _ (by rw [List.getElem?_drop, show j + (j' - j) = j' by omega]; exact hk) hc2
                    rw [show j + (j' - j) = j' by omega] at this
                    exact this.mono hok
                  · simp only [if_neg hin]
                    have h8 := v2 e' j' k (by omega) hk
                    have h9 := k5 (okB mem ρ w) w k e' j' _ (by rw [hlen]; omega) h8
                    exact (h9.mono fun b hb' => ⟨k1.ok b hb', rfl⟩).mono hok
          · cases h
        · cases h
      · cases h
    · cases h
  · cases h
end
end Go.Ev

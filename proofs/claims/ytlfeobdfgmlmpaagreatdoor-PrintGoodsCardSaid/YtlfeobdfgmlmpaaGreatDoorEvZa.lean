/- Loops of which there are two contracts, for two kinds of states. No conditions. -/
import Derived.Test.YtlfeobdfgmlmpaaGreatDoorEvZ
namespace Go.Ev

/-- Where the first contract's pattern does not fit, the second one's is tried. -/
noncomputable def mkCx2 (P : Program) (ok : List FuncId) (Γ : List (FuncId × (List D → Option (Bool × List D)))) (ls ls2 : List LoopC) (Xs : List (FuncId × (List Value → Option (Bool × List Value))) := []) : Cx :=
  { P, ok, Γ := gfind Γ, X := xfind Xs, N := 18446744073709551616, lv := fun f id => match lfind ls f id with | some l => l.lv | none => allT, lx := fun f id => match lfind ls f id with | some l => some l.lx | none => none,
    Λ := fun f id => match lfind ls f id with
      | some l => some fun σ k => match matchSt l.p σ with
        | some its => l.G its k
        | none => match lfind ls2 f id with
          | some m => m.L σ k
          | none => none
      | none => none }

theorem mkCx2_okX {P : Program} {W : World → Prop} {ok : List FuncId} {Γ : List (FuncId × (List D → Option (Bool × List D)))} {ls ls2 : List LoopC} {Xs : List (FuncId × (List Value → Option (Bool × List Value)))}
    (enter : ∀ (g : FuncId), ok.contains g = true → ∀ (args : Array Value) (w : World), (callFunc g args).run P w = .ok (.enter g args) w) (mixed : P.follows .mixedOrders = true)
    (den : ∀ p, p ∈ Γ → DenW P W p.1 p.2) (loop : ∀ l, l ∈ ls → LoopOk (mkCx2 P ok Γ ls ls2 Xs) l)
    (loop2 : ∀ m, m ∈ ls2 → LoopOk (mkCx2 P ok Γ ls ls2 Xs) m ∧ ∀ l, lfind ls m.f m.id = some l → l.lv = m.lv ∧ l.lx = m.lx)
    (ext : ∀ p, p ∈ Xs → ExtOk P p.1 p.2) : CxW (mkCx2 P ok Γ ls ls2 Xs) W := fun wb hW => {
  enter := enter,
  mixed := mixed,
  ext := fun g f h => ext (g, f) (xfind_mem h),
  inpl := fun g F h => (by cases h),
  den := fun g F h => den (g, F) (gfind_mem h) wb hW,
  loop := fun f b hb L hL d σ k r h => by
    have hL' : (match lfind ls f (firstRegion b) with | some l => some (fun (σ : St) k => match matchSt l.p σ with | some its => l.G its k | none => match lfind ls2 f (firstRegion b) with | some m => m.L σ k | none => none) | none => none) = some L := hL
    show rounds (match lfind ls f (firstRegion b) with | some l => l.lv | none => allT) (match lfind ls f (firstRegion b) with | some l => some l.lx | none => none) _ _ _ _ = _
    split at hL'
    · rename_i l hl
      cases hL'
      obtain ⟨h1, h2, h3⟩ := lfind_mem hl
      have hbody : ∀ {m : LoopC}, Nat.beq ((loopsOf P m.f).filter fun b => Nat.beq (firstRegion b) m.id).length 1 = true → m.f = f → m.id = firstRegion b → b = lbody P m.f m.id := by
        intro m k1 h2 h3
        have k1' := Nat.eq_of_beq_eq_true k1
        have hm : b ∈ (loopsOf P m.f).filter fun b => Nat.beq (firstRegion b) m.id := by
          rw [List.mem_filter]
          rw [h2, h3]
          exact ⟨hb, by simp⟩
        obtain ⟨x, hx⟩ := List.length_eq_one_iff.1 k1'
        unfold lbody
        rw [hx] at hm ⊢
        simpa using hm
      dsimp only at h
      split at h
      · rename_i its hm
        obtain ⟨k1, k2⟩ := loop l h1
        have := k2 d its k r h
        rw [matchSt_build hm, h2] at this
        rw [hbody k1 h2 h3, h2]
        exact this
      · split at h
        · rename_i m hm2
          obtain ⟨g1, g2, g3⟩ := lfind_mem hm2
          obtain ⟨⟨k1, k2⟩, k3⟩ := loop2 m g1
          obtain ⟨e1, e2⟩ := k3 l (by rw [g2, g3]; exact hl)
          unfold LoopC.L at h
          split at h
          · rename_i its hm
            have := k2 d its k r h
            rw [matchSt_build hm, g2, ← e1, ← e2] at this
            rw [hbody k1 g2 g3, g2]
            exact this
          · cases h
        · cases h
    · cases hL' }

theorem mkCx2_okW {P : Program} {W : World → Prop} {ok : List FuncId} {Γ : List (FuncId × (List D → Option (Bool × List D)))} {ls ls2 : List LoopC}
    (enter : ∀ (g : FuncId), ok.contains g = true → ∀ (args : Array Value) (w : World), (callFunc g args).run P w = .ok (.enter g args) w) (mixed : P.follows .mixedOrders = true)
    (den : ∀ p, p ∈ Γ → DenW P W p.1 p.2) (loop : ∀ l, l ∈ ls → LoopOk (mkCx2 P ok Γ ls ls2) l)
    (loop2 : ∀ m, m ∈ ls2 → LoopOk (mkCx2 P ok Γ ls ls2) m ∧ ∀ l, lfind ls m.f m.id = some l → l.lv = m.lv ∧ l.lx = m.lx) : CxW (mkCx2 P ok Γ ls ls2) W := mkCx2_okX enter mixed den loop loop2 (fun p hp => by cases hp)
end Go.Ev

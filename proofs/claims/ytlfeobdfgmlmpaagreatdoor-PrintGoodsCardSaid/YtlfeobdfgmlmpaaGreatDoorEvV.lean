/- Contracts of loops: patterns of states, lists of contracts. No conditions. -/
import Derived.Test.YtlfeobdfgmlmpaaGreatDoorEvU
namespace Go.Ev

/-- What a place of a pattern holds. -/
inductive It where
  | i (n : Int)
  | b (x : Bool)
  | s (x : ByteArray)
  | n (x : Nat)
  | r (x : Row)
  | mi (f : ByteArray → Int)
  | mb (f : ByteArray → Bool)

inductive PV1 where
  | u
  | c (v : Value)
  | int (k : IntKind)
  | bool
  | str
  | sl (id : Nat)
  | slw (id : Nat)
  | ptr (id j : Nat)

inductive PV where
  | v (p : PV1)
  | agg (ps : List PV1)

inductive PB where
  | dead
  | box (ps : List PV)
  | row (ks : List CK) (own : Bool)
  | deep (ks : List CK)
  | map (k : CK)
  | bor (p j : Nat) (ks : List CK)

structure PSt where
  τ : List PV
  saved : List (List PV)
  mem : List PB

def ptrsEq : List Value → List Value → Bool
  | [], [] => true
  | .pointer (some ⟨b, o, some j⟩) :: vs, .pointer (some ⟨b', o', some j'⟩) :: ws => Nat.beq b b' && Nat.beq o o' && Nat.beq j j' && ptrsEq vs ws
  | _, _ => false
theorem ptrsEq_eq : ∀ {vs ws : List Value}, ptrsEq vs ws = true → vs = ws
  | [], [], _ => rfl
  | v :: vs, w :: ws, h => by
    unfold ptrsEq at h
    split at h
    · rename_i h1 h2; cases h1
    · rename_i h1 h2
      cases h1; cases h2
      simp only [Bool.and_eq_true] at h
      rw [Nat.eq_of_beq_eq_true h.1.1.1, Nat.eq_of_beq_eq_true h.1.1.2, Nat.eq_of_beq_eq_true h.1.2, ptrsEq_eq h.2]
    · cases h
  | [], _ :: _, h => by simp [ptrsEq] at h
  | _ :: _, [], h => by simp [ptrsEq] at h

def constEq : Value → Value → Bool
  | .int k n, .int k' m => IntKind.same k k' && decide (n = m)
  | .bool a, .bool b => match a, b with | true, true => true | false, false => true | _, _ => false
  | .pointer none, .pointer none => true
  | .pointer (some ⟨b, o, some j⟩), .pointer (some ⟨b', o', some j'⟩) => Nat.beq b b' && Nat.beq o o' && Nat.beq j j'
  | .slice none 0 0, .slice none 0 0 => true
  | .tuple ⟨[]⟩, .tuple ⟨[]⟩ => true
  | .nilFunc, .nilFunc => true
  | .nilIface, .nilIface => true
  | .map (some b), .map (some b') => Nat.beq b b'
  | .func (.func f) ⟨[]⟩ ⟨vs⟩, .func (.func g) ⟨[]⟩ ⟨ws⟩ => Nat.beq f g && ptrsEq vs ws
  | _, _ => false

theorem IntKind.same_eq {k k' : IntKind} (h : IntKind.same k k' = true) : k = k' := by cases k <;> cases k' <;> first | rfl | cases h

theorem constEq_eq {v w : Value} (h : constEq v w = true) : v = w := by
  unfold constEq at h
  split at h
  · simp only [Bool.and_eq_true, decide_eq_true_eq] at h
    rw [IntKind.same_eq h.1, h.2]
  · split at h <;> first | rfl | cases h
  · rfl
  · simp only [Bool.and_eq_true] at h
    rw [Nat.eq_of_beq_eq_true h.1.1, Nat.eq_of_beq_eq_true h.1.2, Nat.eq_of_beq_eq_true h.2]
  · rfl
  · rfl
  · rfl
  · rfl
  · rw [Nat.eq_of_beq_eq_true h]
  · simp only [Bool.and_eq_true] at h
    rw [Nat.eq_of_beq_eq_true h.1, ptrsEq_eq h.2]
  · cases h

def matchV1 : PV1 → Value → Option (List It)
  | .u, .chan none => some []
  | .c v, w => match constEq v w with | true => some [] | false => none
  | .int k, .int k' n => match IntKind.same k k' with | true => some [.i n] | false => none
  | .bool, .bool x => some [.b x]
  | .str, .string x => some [.s x]
  | .sl id, .slice (some ⟨id', 0, some 0⟩) len 0 => match Nat.beq id id' with | true => some [.n len] | false => none
  | .slw id, .slice (some ⟨id', e, some 0⟩) len 0 => match Nat.beq id id' with | true => some [.n e, .n len] | false => none
  | .ptr id j, .pointer (some ⟨id', e, some j'⟩) => match Nat.beq id id' && Nat.beq j j' with | true => some [.n e] | false => none
  | _, _ => none

def bv1 : PV1 → List It → Value × List It
  | .u, l => (unk, l)
  | .c v, l => (v, l)
  | .int k, .i n :: l => (.int k n, l)
  | .bool, .b x :: l => (.bool x, l)
  | .str, .s x :: l => (.string x, l)
  | .sl id, .n len :: l => (.slice (some ⟨id, 0, some 0⟩) len 0, l)
  | .slw id, .n e :: .n len :: l => (.slice (some ⟨id, e, some 0⟩) len 0, l)
  | .ptr id j, .n e :: l => (.pointer (some ⟨id, e, some j⟩), l)
  | _, l => (unk, l)

theorem matchV1_build {p : PV1} {v : Value} {l : List It} (h : matchV1 p v = some l) (l' : List It) : bv1 p (l ++ l') = (v, l') := by
  unfold matchV1 at h
  split at h
  · cases h; rfl
  · split at h
    · rename_i hc; cases h; rw [constEq_eq hc]; rfl
    · cases h
  · split at h
    · rename_i hc; cases h; rw [IntKind.same_eq hc]; rfl
    · cases h
  · cases h; rfl
  · cases h; rfl
  · split at h
    · rename_i hc; cases h; rw [Nat.eq_of_beq_eq_true hc]; rfl
    · cases h
  · split at h
    · rename_i hc; cases h; rw [Nat.eq_of_beq_eq_true hc]; rfl
    · cases h
  · split at h
    · rename_i hc
      simp only [Bool.and_eq_true] at hc
      cases h
      rw [Nat.eq_of_beq_eq_true hc.1, Nat.eq_of_beq_eq_true hc.2]
      rfl
    · cases h
  · cases h

section lists
variable {π β : Type} (m : π → β → Option (List It)) (b : π → List It → β × List It)
def matchL : List π → List β → Option (List It)
  | [], [] => some []
  | p :: ps, v :: vs => match m p v, matchL ps vs with
    | some l, some l' => some (l ++ l')
    | _, _ => none
  | _, _ => none
def bvL : List π → List It → List β × List It
  | [], l => ([], l)
  | p :: ps, l => ((b p l).1 :: (bvL ps (b p l).2).1, (bvL ps (b p l).2).2)
theorem matchL_build (hmb : ∀ p v l, m p v = some l → ∀ l', b p (l ++ l') = (v, l')) : ∀ (ps : List π) (vs : List β) (l : List It), matchL m ps vs = some l → ∀ l', bvL b ps (l ++ l') = (vs, l')
  | [], [], l, h, l' => by simp [matchL] at h; subst h; rfl
  | [], _ :: _, l, h, l' => by simp [matchL] at h
  | _ :: _, [], l, h, l' => by simp [matchL] at h
  | p :: ps, v :: vs, l, h, l' => by
    simp only [matchL] at h
    split at h
    · rename_i l1 l2 h1 h2
      cases h
      simp only [bvL, List.append_assoc, hmb p v l1 h1 (l2 ++ l'), matchL_build hmb ps vs l2 h2 l']
    · cases h
end lists

def matchV : PV → Value → Option (List It)
  | .v p, v => matchV1 p v
  | .agg ps, .agg cs => matchL matchV1 ps cs.toList
  | _, _ => none
def bv : PV → List It → Value × List It
  | .v p, l => bv1 p l
  | .agg ps, l => (.agg ⟨(bvL bv1 ps l).1⟩, (bvL bv1 ps l).2)
theorem matchV_build (p : PV) (v : Value) (l : List It) (h : matchV p v = some l) (l' : List It) : bv p (l ++ l') = (v, l') := by
  unfold matchV at h
  split at h
  · exact matchV1_build h l'
  · simp only [bv, matchL_build matchV1 bv1 (fun _ _ _ h => matchV1_build h) _ _ _ h l']
  · cases h

def matchB : PB → Option Blk → Option (List It)
  | .dead, none => some []
  | .box ps, some (.box cs) => matchL matchV ps cs
  | .row ks own, some (.row ks' own' r) => match cksEq ks ks', own, own' with | true, true, true => some [.r r] | true, false, false => some [.r r] | _, _, _ => none
  | .deep ks, some (.deep ks' r none) => match cksEq ks ks' with | true => some [.r r] | false => none
  | .map k, some (.map k' I Bo) => match ckEq k k' with | true => some [.mi I, .mb Bo] | false => none
  | .bor p j ks, some (.bor p' e j' ks' r) => match Nat.beq p p' && Nat.beq j j' && cksEq ks ks' with | true => some [.n e, .r r] | false => none
  | _, _ => none
def bb : PB → List It → Option Blk × List It
  | .dead, l => (none, l)
  | .box ps, l => (some (.box (bvL bv ps l).1), (bvL bv ps l).2)
  | .row ks own, .r r :: l => (some (.row ks own r), l)
  | .row _ _, l => (none, l)
  | .deep ks, .r r :: l => (some (.deep ks r none), l)
  | .deep _, l => (none, l)
  | .map k, .mi I :: .mb Bo :: l => (some (.map k I Bo), l)
  | .map _, l => (none, l)
  | .bor p j ks, .n e :: .r r :: l => (some (.bor p e j ks r), l)
  | .bor _ _ _, l => (none, l)
theorem matchB_build (p : PB) (v : Option Blk) (l : List It) (h : matchB p v = some l) (l' : List It) : bb p (l ++ l') = (v, l') := by
  unfold matchB at h
  split at h
  · cases h; rfl
  · simp only [bb, matchL_build matchV bv matchV_build _ _ _ h l']
  · split at h
    · rename_i hk; cases h; rw [cksEq_eq hk]; rfl
    · rename_i hk; cases h; rw [cksEq_eq hk]; rfl
    · cases h
  · split at h
    · rename_i hk; cases h; rw [cksEq_eq hk]; rfl
    · cases h
  · split at h
    · rename_i hk; cases h; rw [ckEq_eq hk]; rfl
    · cases h
  · split at h
    · rename_i hk
      simp only [Bool.and_eq_true] at hk
      cases h
      rw [Nat.eq_of_beq_eq_true hk.1.1, Nat.eq_of_beq_eq_true hk.1.2, cksEq_eq hk.2]
      rfl
    · cases h
  · cases h

def matchSt (p : PSt) (σ : St) : Option (List It) := match matchL matchV p.τ σ.τ, matchL (matchL matchV) p.saved σ.saved, matchL matchB p.mem σ.mem with
  | some a, some b, some c => some (a ++ (b ++ c))
  | _, _, _ => none
def bst (p : PSt) (l : List It) : St :=
  let a := bvL bv p.τ l
  let b := bvL (bvL bv) p.saved a.2
  let c := bvL bb p.mem b.2
  { τ := a.1, saved := b.1, mem := c.1 }
theorem matchSt_build {p : PSt} {σ : St} {l : List It} (h : matchSt p σ = some l) : bst p l = σ := by
  unfold matchSt at h
  split at h
  · rename_i a b c h1 h2 h3
    cases h
    have e1 := matchL_build matchV bv matchV_build _ _ _ h1 (b ++ c)
    have e2 := matchL_build (matchL matchV) (bvL bv) (fun ps vs l h => matchL_build matchV bv matchV_build ps vs l h) _ _ _ h2 c
    have e3 := matchL_build matchB bb matchB_build _ _ _ h3 []
    rw [List.append_nil] at e3
    simp only [bst, e1, e2, e3]
  · cases h

/-- A loop's contract: its function, its first region, what is kept, from which states, and what it comes to. -/
structure LoopC where
  f : FuncId
  id : Nat
  lv : List Tmp
  lx : List Tmp
  p : PSt
  G : List It → (X → St → Option (List D)) → Option (List D)

def LoopC.L (l : LoopC) (σ : St) (k : X → St → Option (List D)) : Option (List D) := match matchSt l.p σ with
  | some its => l.G its k
  | none => none

def lfind : List LoopC → FuncId → Nat → Option LoopC
  | [], _, _ => none
  | l :: ls, f, id => match Nat.beq l.f f && Nat.beq l.id id with | true => some l | false => lfind ls f id

theorem lfind_mem : ∀ {ls : List LoopC} {f id : Nat} {l : LoopC}, lfind ls f id = some l → l ∈ ls ∧ l.f = f ∧ l.id = id
  | l' :: ls, f, id, l, h => by
    unfold lfind at h
    split at h
    · rename_i hb
      cases h
      simp only [Bool.and_eq_true] at hb
      exact ⟨by simp, Nat.eq_of_beq_eq_true hb.1, Nat.eq_of_beq_eq_true hb.2⟩
    · obtain ⟨h1, h2⟩ := lfind_mem h
      exact ⟨by simp [h1], h2⟩

def gfind : List (FuncId × (List D → Option (Bool × List D))) → FuncId → Option (List D → Option (Bool × List D))
  | [], _ => none
  | (g, F) :: l, f => match Nat.beq g f with | true => some F | false => gfind l f

theorem gfind_mem : ∀ {l : List (FuncId × (List D → Option (Bool × List D)))} {f : Nat} {F : List D → Option (Bool × List D)}, gfind l f = some F → (f, F) ∈ l
  | (g, G) :: l, f, F, h => by
    unfold gfind at h
    split at h
    · rename_i hb
      cases h
      rw [Nat.eq_of_beq_eq_true hb]
      simp
    · simp [gfind_mem h]

def allT : List Tmp := List.range 400

def xfind : List (FuncId × (List Value → Option (Bool × List Value))) → FuncId → Option (List Value → Option (Bool × List Value))
  | [], _ => none
  | (g, F) :: l, f => match Nat.beq g f with | true => some F | false => xfind l f

theorem xfind_mem : ∀ {l : List (FuncId × (List Value → Option (Bool × List Value)))} {f : FuncId} {F : List Value → Option (Bool × List Value)}, xfind l f = some F → (f, F) ∈ l
  | (g, G) :: l, f, F, h => by
    unfold xfind at h
    split at h
    · rename_i hb
      cases h
      rw [Nat.eq_of_beq_eq_true hb]
      simp
    · simp [xfind_mem h]

def ifind : List (FuncId × (List Value → St → Option (Bool × Value × St))) → FuncId → Option (List Value → St → Option (Bool × Value × St))
  | [], _ => none
  | (g, F) :: l, f => match Nat.beq g f with | true => some F | false => ifind l f

theorem ifind_mem : ∀ {l : List (FuncId × (List Value → St → Option (Bool × Value × St)))} {f : FuncId} {F : List Value → St → Option (Bool × Value × St)}, ifind l f = some F → (f, F) ∈ l
  | (g, G) :: l, f, F, h => by
    unfold ifind at h
    split at h
    · rename_i hb
      cases h
      rw [Nat.eq_of_beq_eq_true hb]
      simp
    · simp [ifind_mem h]

noncomputable def mkCx (P : Program) (ok : List FuncId) (Γ : List (FuncId × (List D → Option (Bool × List D)))) (ls : List LoopC) (Xs : List (FuncId × (List Value → Option (Bool × List Value))) := []) (Is : List (FuncId × (List Value → St → Option (Bool × Value × St))) := []) : Cx :=
  { P, ok, Γ := gfind Γ, X := xfind Xs, I := ifind Is, N := 18446744073709551616, lv := fun f id => match lfind ls f id with | some l => l.lv | none => allT, lx := fun f id => match lfind ls f id with | some l => some l.lx | none => none,
    Λ := fun f id => match lfind ls f id with | some l => some l.L | none => none }

/-- The body of a loop. -/
def lbody (P : Program) (f : FuncId) (id : Nat) : Code := ((loopsOf P f).filter fun b => Nat.beq (firstRegion b) id).headD .skip

/-- A loop's contract holds. -/
def LoopOk (C : Cx) (l : LoopC) : Prop := Nat.beq ((loopsOf C.P l.f).filter fun b => Nat.beq (firstRegion b) l.id).length 1 = true ∧
  ∀ (d : Nat) (its : List It) (k : X → St → Option (List D)) (r : List D), l.G its k = some r → rounds l.lv (some l.lx) (evCode C l.f true (inl C (d + 4)) (lbody C.P l.f l.id)) C.N (bst l.p its) k = some r

/-- What is asked of a function without a body. -/
def ExtOk (P : Program) (g : FuncId) (f : List Value → Option (Bool × List Value)) : Prop := ∀ (args vs : List Value), f args = some (true, vs) → (∀ v ∈ args, plainV v = true) ∧ (∀ v ∈ vs, plainV v = true) ∧ ∀ w : World, (callFunc g ⟨args⟩).run P w = .ok (.value (tupV vs)) w

theorem mkCx_okI {P : Program} {W : World → Prop} {ok : List FuncId} {Γ : List (FuncId × (List D → Option (Bool × List D)))} {ls : List LoopC} {Xs : List (FuncId × (List Value → Option (Bool × List Value)))} {Is : List (FuncId × (List Value → St → Option (Bool × Value × St)))}
    (enter : ∀ (g : FuncId), ok.contains g = true → ∀ (args : Array Value) (w : World), (callFunc g args).run P w = .ok (.enter g args) w) (mixed : P.follows .mixedOrders = true)
    (den : ∀ p, p ∈ Γ → DenW P W p.1 p.2) (loop : ∀ l, l ∈ ls → LoopOk (mkCx P ok Γ ls Xs Is) l) (ext : ∀ p, p ∈ Xs → ExtOk P p.1 p.2) (inpl : ∀ p, p ∈ Is → ∀ wb, W wb → IAt P wb p.1 p.2) : CxW (mkCx P ok Γ ls Xs Is) W := fun wb hW => {
  enter := enter,
  mixed := mixed,
  ext := fun g f h => ext (g, f) (xfind_mem h),
  inpl := fun g F h => inpl (g, F) (ifind_mem h) wb hW,
  den := fun g F h => den (g, F) (gfind_mem h) wb hW,
  loop := fun f b hb L hL d σ k r h => by
    have hL' : (match lfind ls f (firstRegion b) with | some l => some l.L | none => none) = some L := hL
    show rounds (match lfind ls f (firstRegion b) with | some l => l.lv | none => allT) (match lfind ls f (firstRegion b) with | some l => some l.lx | none => none) _ _ _ _ = _
    split at hL'
    · rename_i l hl
      cases hL'
      obtain ⟨h1, h2, h3⟩ := lfind_mem hl
      obtain ⟨k1, k2⟩ := loop l h1
      have k1' := Nat.eq_of_beq_eq_true k1
      unfold LoopC.L at h
      split at h
      · rename_i its hm
        have hb' : b = lbody P l.f l.id := by
          have hm : b ∈ (loopsOf P l.f).filter fun b => Nat.beq (firstRegion b) l.id := by
            rw [List.mem_filter]
            rw [h2, h3]
            exact ⟨hb, by simp⟩
          have k1'' : ((loopsOf P l.f).filter fun b => Nat.beq (firstRegion b) l.id).length = 1 := k1'
          obtain ⟨x, hx⟩ := List.length_eq_one_iff.1 k1''
          unfold lbody
          rw [hx] at hm ⊢
          simpa using hm
        have := k2 d its k r h
        rw [matchSt_build hm, h2] at this
        rw [hb', h2]
        exact this
      · cases h
    · cases hL' }

theorem mkCx_okX {P : Program} {W : World → Prop} {ok : List FuncId} {Γ : List (FuncId × (List D → Option (Bool × List D)))} {ls : List LoopC} {Xs : List (FuncId × (List Value → Option (Bool × List Value)))}
    (enter : ∀ (g : FuncId), ok.contains g = true → ∀ (args : Array Value) (w : World), (callFunc g args).run P w = .ok (.enter g args) w) (mixed : P.follows .mixedOrders = true)
    (den : ∀ p, p ∈ Γ → DenW P W p.1 p.2) (loop : ∀ l, l ∈ ls → LoopOk (mkCx P ok Γ ls Xs) l) (ext : ∀ p, p ∈ Xs → ExtOk P p.1 p.2) : CxW (mkCx P ok Γ ls Xs) W := mkCx_okI enter mixed den loop ext (fun p hp => by cases hp)

theorem mkCx_okW {P : Program} {W : World → Prop} {ok : List FuncId} {Γ : List (FuncId × (List D → Option (Bool × List D)))} {ls : List LoopC}
    (enter : ∀ (g : FuncId), ok.contains g = true → ∀ (args : Array Value) (w : World), (callFunc g args).run P w = .ok (.enter g args) w) (mixed : P.follows .mixedOrders = true)
    (den : ∀ p, p ∈ Γ → DenW P W p.1 p.2) (loop : ∀ l, l ∈ ls → LoopOk (mkCx P ok Γ ls) l) : CxW (mkCx P ok Γ ls) W := mkCx_okX enter mixed den loop (fun p hp => by cases hp)

theorem mkCx_ok {P : Program} {ok : List FuncId} {Γ : List (FuncId × (List D → Option (Bool × List D)))} {ls : List LoopC}
    (enter : ∀ (g : FuncId), ok.contains g = true → ∀ (args : Array Value) (w : World), (callFunc g args).run P w = .ok (.enter g args) w) (mixed : P.follows .mixedOrders = true)
    (den : ∀ p, p ∈ Γ → Den P p.1 p.2) (loop : ∀ l, l ∈ ls → LoopOk (mkCx P ok Γ ls) l) : CxOk (mkCx P ok Γ ls) := fun wb => mkCx_okW (W := fun _ => True) enter mixed (fun p hp => (den p hp).at _) loop wb trivial
end Go.Ev

/- A region that draws its order, where stores come last but places are reckoned between them: what is reckoned from slots alone may be done first. No conditions. -/
import Derived.Test.YtlfeobdfgmlmpaaGreatDoorEvR
import Derived.StillTail
namespace Go.Ev
open Go

section
variable {P : Program} {ops : Array Oper} {md : Region.Mode}

theorem store_result {e : Operand → Value} {o : Oper} (h : isSt o.op = true) {w w' : World} {n : Next} (hr : (execOp e o).run P w = .ok n w') : n = .skip := by
  unfold isSt at h
  split at h
  · rename_i t a x ho
    simp only [execOp, ho, Sem.run_bind] at hr
    generalize (Instr.storeAt t (e a) (e x)).run P w = q at hr
    cases q with
    | ok u w1 => simp [Result.andThen, Sem.run_pure] at hr; exact hr.1.symm
    | halt x w1 => simp [Result.andThen] at hr
  · cases h

theorem float_any {e : Operand → Value} {o : Oper} (h : floatB P o = true) {w w1 : World} {n : Next} (hr : (execOp e o).run P w = .ok n w1) : (∃ v, n = .value v) ∧ ∀ w', (execOp e o).run P w' = .ok n w' := by
  unfold floatB at h
  split at h
  · rename_i x ho
    simp only [execOp, ho, Sem.run_pure, Result.ok.injEq] at hr ⊢
    exact ⟨⟨_, hr.1.symm⟩, fun w' => ⟨hr.1, trivial⟩⟩
  · rename_i x ho
    simp only [execOp, ho, Sem.run_pure, Result.ok.injEq] at hr ⊢
    exact ⟨⟨_, hr.1.symm⟩, fun w' => ⟨hr.1, trivial⟩⟩
  · rename_i s x f ho
    split at h
    · rename_i fs hu
      split at h
      · rename_i fl hf
        split at h
        · rename_i fi hfi
          have hsz : ¬ fi.size = 0 := fun h0 => by rw [h0] at h; cases h
          have key : ∀ (p : Addr) (w' : World), e x = .pointer (some p) → (execOp e o).run P w' = .ok (.value (.pointer (some (p.add fl.offset)))) w' := fun p w' hp => by
            simp [execOp, ho, hp, Instr.fieldAt, run_underlying hu, hf, Instr.sureAddr, fieldPlace, run_sizeOf hfi, hsz]
          have hp : ∃ p, e x = .pointer (some p) := by
            generalize he : e x = y at *
            cases y with
            | pointer p =>
              cases p with
              | some p => exact ⟨p, rfl⟩
              | none => simp [execOp, ho, he, Instr.fieldAt, run_underlying hu, hf, Instr.sureAddr, stuck] at hr
            | _ => simp [execOp, ho, he, Instr.fieldAt, run_underlying hu, hf, Instr.sureAddr, stuck] at hr
          obtain ⟨p, hp⟩ := hp
          rw [key p w hp] at hr
          cases hr
          exact ⟨⟨_, rfl⟩, fun w' => key p w' hp⟩
        · cases h
      · cases h
    · cases h
  · cases h

/-- One operation: a store, or one that leaves the world as it is. -/
def stp (P : Program) (ops : Array Oper) (i : Nat) (K : Act → World → Prop) (a : Act) (w : World) : Prop :=
  match (ops[i]?).any fun o => isSt o.op with
  | true => match ops[i]? with
    | some o => if Region.wanted o (yielded ops a.tmps) then ∃ w', (execOp a.eval o).run P w = .ok .skip w' ∧ K (a.put o.dst undef) w' else K (a.put o.dst undef) w
    | none => K a w
  | false => stOp P ops w i (fun a' => K a' w) a

theorem stp_mono {i : Nat} {K K' : Act → World → Prop} {a : Act} {w : World} (h : ∀ a w, K a w → K' a w) (hh : stp P ops i K a w) : stp P ops i K' a w := by
  unfold stp at *
  split
  · rename_i hs
    rw [hs] at hh
    simp only at hh
    split
    · rename_i o ho
      simp only [ho] at hh
      split
      · rename_i hw
        rw [if_pos hw] at hh
        obtain ⟨w', h1, h2⟩ := hh
        exact ⟨w', h1, h _ _ h2⟩
      · rename_i hw
        rw [if_neg hw] at hh
        exact h _ _ hh
    · rename_i ho
      simp only [ho] at hh
      exact h _ _ hh
  · rename_i hs
    rw [hs] at hh
    exact stOp_mono (fun a' => h a' w) hh

def wpT (P : Program) (md : Region.Mode) (ops : Array Oper) (Q : Act → World → Prop) : Nat → Array Bool → Act → World → Prop
  | 0, listed, a, w => Region.ready md ops listed = [] ∧ Q a w
  | f + 1, listed, a, w => (Region.ready md ops listed = [] → Q a w) ∧ ∀ i ∈ Region.ready md ops listed, stp P ops i (wpT P md ops Q f (listed.setIfInBounds i true)) a w

theorem wpOp_of_stp {i : Nat} {K K' : Act → World → Prop} {Q' : Exit → Act → World → Prop} {a : Act} {w : World} (h : ∀ a w, K a w → K' a w) (hh : stp P ops i K a w) : wpOp P ops Q' i K' a w := by
  unfold stp at hh
  split at hh
  · split at hh
    · rename_i o ho
      unfold wpOp
      simp only [ho]
      split
      · rename_i hw
        rw [if_pos hw] at hh
        obtain ⟨w', h1, h2⟩ := hh
        left
        unfold Oper.wp
        rw [h1]
        exact h _ _ h2
      · rename_i hw
        rw [if_neg hw] at hh
        exact h _ _ hh
    · rename_i ho
      unfold wpOp
      simp only [ho]
      exact h _ _ hh
  · exact wpOp_of_stOp (fun a' => h a' w) hh

theorem wpAny_of_T {Q : Act → World → Prop} {Q' : Exit → Act → World → Prop} (hQ : ∀ a w, Q a w → Q' .normal a w) : ∀ (f : Nat) (listed : Array Bool) (a : Act) (w : World), wpT P md ops Q f listed a w → wpAny P md ops Q' f listed a w
  | 0, _, _, _, h => ⟨h.1, hQ _ _ h.2⟩
  | f + 1, _, _, _, h => ⟨fun h0 => hQ _ _ (h.1 h0), fun i hi => wpOp_of_stp (wpAny_of_T hQ f _) (h.2 i hi)⟩

/-- It yields v, and, where it is reckoned from slots alone, in each world. -/
def YF (P : Program) (ops : Array Oper) (fl : Bool) (o : Oper) (v : Value) (a : Act) (w : World) : Prop := YieldsAt P ops w o v a ∧ (fl = true → ∀ w', YieldsAt P ops w' o v a)

theorem YF.put {fl : Bool} {oi oj : Oper} {v u : Value} {a : Act} {w w' : World} (hsi : ∀ cs b, oi.op ≠ .select cs b) (h3 : ∀ d, oj.dst = some d → d ∉ oi.looksAt ops) (h : YF P ops fl oi v a w) (hw : w' = w ∨ fl = true) : YF P ops fl oi v (a.put oj.dst u) w' := by
  have e1 := execOp_put oi hsi a oj.dst u h3
  have e2 := wanted_put oi a oj.dst u h3
  refine ⟨?_, fun hf w2 => (h.2 hf w2).of_same e1 e2⟩
  rcases hw with rfl | hf
  · exact h.1.of_same e1 e2
  · exact (h.2 hf w').of_same e1 e2

theorem stp_put {j : Nat} {oi oj : Oper} {fl : Bool} {v : Value} (hj : ops[j]? = some oj) (hap : oi.apart ops oj = true) (hk : isSt oj.op = true → fl = true)
    (hsi : ∀ cs b, oi.op ≠ .select cs b) (hsj : ∀ cs b, oj.op ≠ .select cs b) {K : Act → World → Prop} {a : Act} {w : World} (hy : YF P ops fl oi v a w) (h : stp P ops j K (a.put oi.dst v) w) :
    stp P ops j (fun a' w' => YF P ops fl oi v a' w' ∧ K (a'.put oi.dst v) w') a w := by
  obtain ⟨h1, h2, h3⟩ := Oper.apart_spec hap
  unfold stp at *
  split
  · rename_i hs
    rw [hs] at h
    simp only [hj] at h ⊢
    have hf := hk (by simpa [hj] using hs)
    rw [wanted_put oj a oi.dst v h1, execOp_put oj hsj a oi.dst v h1] at h
    split
    · rename_i hw
      rw [if_pos hw] at h
      obtain ⟨w', h4, h5⟩ := h
      exact ⟨w', h4, hy.put hsi h3 (.inr hf), by rw [← Act.put_comm a v undef h2]; exact h5⟩
    · rename_i hw
      rw [if_neg hw] at h
      exact ⟨hy.put hsi h3 (.inl rfl), by rw [← Act.put_comm a v undef h2]; exact h⟩
  · rename_i hs
    rw [hs] at h
    simp only at h
    unfold stOp at *
    simp only [hj] at *
    rw [wanted_put oj a oi.dst v h1] at h
    split
    · rename_i hw
      rw [if_pos hw] at h
      unfold Oper.still at *
      rw [execOp_put oj hsj a oi.dst v h1] at h
      generalize (execOp a.eval oj).run P w = r at *
      cases r with
      | ok n w' =>
        cases n <;> simp only [Oper.stillUpon] at h ⊢
        case value u => exact ⟨h.1, hy.put hsi h3 (.inl rfl), by rw [← Act.put_comm a v u h2]; exact h.2⟩
        case skip => exact ⟨h.1, hy.put hsi h3 (.inl rfl), by rw [← Act.put_comm a v undef h2]; exact h.2⟩
        case enter f args =>
          obtain ⟨hw', u, hc, hn⟩ := h
          exact ⟨hw', u, hc, hy.put hsi h3 (.inl rfl), by rw [← Act.put_comm a v u h2]; exact hn⟩
      | halt x w' => simp only [Oper.stillUpon] at h
    · rename_i hw
      rw [if_neg hw] at h
      exact ⟨hy.put hsi h3 (.inl rfl), by rw [← Act.put_comm a v undef h2]; exact h⟩

/-- What is listed has listed all that it waits for. -/
def Clo (md : Region.Mode) (ops : Array Oper) (listed : Array Bool) : Prop := ∀ j oj, ops[j]? = some oj → listed.getD j false = true → ∀ e ∈ oj.after, Region.binds md e = true → listed.getD e.on false = true
theorem Clo.set {i : Nat} {listed : Array Bool} (inv : Clo md ops listed) (hi : i ∈ Region.ready md ops listed) : Clo md ops (listed.setIfInBounds i true) := fun j oj hj hl e he hb => by
  obtain ⟨_, oi, hoi, hall⟩ := mem_ready.1 hi
  by_cases hij : i = j
  · subst hij
    have : oj = oi := Option.some.inj (hj.symm.trans hoi)
    subst this
    exact getD_set_true (hall e he hb)
  · rw [getD_set_ne false hij] at hl
    exact getD_set_true (inv j oj hj hl e he hb)
theorem Clo.none : Clo md ops (Array.replicate ops.size false) := fun j oj _ hl => by rw [getD_replicate_false] at hl; cases hl
theorem waits_un {listed : Array Bool} {i : Nat} (inv : Clo md ops listed) (hun : listed.getD i true = false) : ∀ (n j : Nat), waitsT md ops n j i = true → listed.getD j false = false ∧ j ∉ Region.ready md ops listed
  | 0, j, h => by cases h
  | n + 1, j, h => by
    have key : ∀ m, listed.getD m false = false → Region.waitsFor md ops j m = true → listed.getD j false = false ∧ j ∉ Region.ready md ops listed := fun m hm hw => by
      obtain ⟨oj, hoj, e, he, hb, hon⟩ := Region.waitsFor_spec hw
      constructor
      · cases hl : listed.getD j false with
        | false => rfl
        | true =>
          have := inv j oj hoj hl e he hb
          rw [hon, hm] at this
          cases this
      · intro hr
        obtain ⟨_, oj', hoj', hall⟩ := mem_ready.1 hr
        have : oj' = oj := Option.some.inj (hoj'.symm.trans hoj)
        subst this
        have := hall e he hb
        rw [hon, hm] at this
        cases this
    simp only [waitsT, Bool.or_eq_true, List.any_eq_true, Bool.and_eq_true] at h
    rcases h with h | ⟨m, _, h1, h2⟩
    · exact key i (getD_both hun) h
    · exact key m (waits_un inv hun n m h2).1 h1

/-- One that may be done first: whatever is done first, the same comes out. -/
theorem T_first {Q : Act → World → Prop} {i : Nat} {oi : Oper} {v : Value} {fl : Bool} (hi : ops[i]? = some oi) (hst : isSt oi.op = false) (hsel : ∀ (j : Nat) (o : Oper) cs b, ops[j]? = some o → o.op ≠ .select cs b) :
    ∀ (f : Nat) (listed : Array Bool) (a : Act) (w : World),
      Clo md ops listed → (∀ j oj, ops[j]? = some oj → j ≠ i → listed.getD j true = false → waitsT md ops 4 j i = false → oi.apart ops oj = true ∧ (isSt oj.op = true → fl = true)) →
      i ∈ Region.ready md ops listed → YF P ops fl oi v a w → wpT P md ops Q f (listed.setIfInBounds i true) (a.put oi.dst v) w → wpT P md ops Q (f + 1) listed a w := by
  have self : ∀ (K : Act → World → Prop) (a : Act) (w : World), YF P ops fl oi v a w → K (a.put oi.dst v) w → stp P ops i K a w := fun K a w hy H => by
    unfold stp
    simp only [hi, Option.any_some, hst]
    exact hy.1.stOp hi H
  intro f
  induction f with
  | zero =>
    intro listed a w _ _ hr hy H
    refine ⟨fun h => (by rw [h] at hr; cases hr), fun j hj => ?_⟩
    by_cases hji : j = i
    · subst hji; exact self _ _ _ hy H
    · have := ready_mono hj hji
      rw [H.1] at this
      cases this
  | succ f ih =>
    intro listed a w inv hfree hr hy H
    have hun := (mem_ready.1 hr).1
    refine ⟨fun h => (by rw [h] at hr; cases hr), fun j hj => ?_⟩
    by_cases hji : j = i
    · subst hji; exact self _ _ _ hy H
    · have h1 := H.2 j (ready_mono hj hji)
      obtain ⟨hjun, oj, hoj, hall⟩ := mem_ready.1 hj
      have hnot : waitsT md ops 4 j i = false := by
        cases hw : waitsT md ops 4 j i with
        | false => rfl
        | true => exact absurd hj (waits_un inv hun 4 j hw).2
      obtain ⟨q1, q2⟩ := hfree j oj hoj hji hjun hnot
      have h2 := stp_put hoj q1 q2 (fun cs b => hsel i oi cs b hi) (fun cs b => hsel j oj cs b hoj) hy h1
      refine stp_mono (fun a' w' h3 => ih (listed.setIfInBounds j true) a' w' (inv.set hj) (fun k ok hk hki hun2 hno => hfree k ok hk hki ?_ hno) (ready_mono hr (Ne.symm hji)) h3.1 ?_) h2
      · by_cases hjk : j = k
        · subst hjk; exact hjun
        · rw [getD_set_ne true hjk] at hun2; exact hun2
      · rw [Array.setIfInBounds_comm _ _ hji]
        exact h3.2

theorem yf_of {o : Oper} {v : Value} {a : Act} {w : World} (hy : YieldsAt P ops w o v a) : YF P ops (floatB P o) o v a w := by
  refine ⟨hy, fun hf w' => ?_⟩
  rcases hy with ⟨hw, hv | ⟨hv, hu⟩ | ⟨f, args, hv, hc⟩⟩ | ⟨hw, rfl⟩
  · exact .inl ⟨hw, .inl ((float_any hf hv).2 w')⟩
  · obtain ⟨u, hu⟩ := (float_any hf hv).1; cases hu
  · obtain ⟨u, hu⟩ := (float_any hf hv).1; cases hu
  · exact .inr ⟨hw, rfl⟩

theorem T_heads {Q : Act → World → Prop} {Lq : Act → Prop} {g : Nat} {w : World} (hsel : ∀ (j : Nat) (o : Oper) cs b, ops[j]? = some o → o.op ≠ .select cs b) : ∀ (hs : List Nat) (listed : Array Bool) (a : Act), Clo md ops listed → headsB P md ops hs listed = true →
    wpStill P ops w Lq (hs.filterMap (ops[·]?)) a → (∀ a', Lq a' → wpT P md ops Q g (listAll hs listed) a' w) → wpT P md ops Q (hs.length + g) listed a w
  | [], listed, a, _, _, h, hL => by rw [List.length_nil, Nat.zero_add]; exact hL a h
  | k :: ks, listed, a, inv, hB, h, hL => by
    simp only [headsB, Bool.and_eq_true] at hB
    obtain ⟨⟨hr, hk⟩, hB'⟩ := hB
    split at hk
    · rename_i ok hok
      simp only [Bool.and_eq_true, Bool.not_eq_true'] at hk
      obtain ⟨hst, hp⟩ := hk
      rw [List.filterMap_cons_some (by exact hok)] at h
      have h' : stOp P ops w k (wpStill P ops w Lq (ks.filterMap (ops[·]?))) a := by
        unfold stOp
        simp only [hok]
        exact h
      obtain ⟨v, hy, hrest⟩ := yieldsAt_of_stOp hok h'
      have hr' : k ∈ Region.ready md ops listed := by simpa using hr
      have := T_first (md := md) (Q := Q) hok hst hsel (ks.length + g) listed a w inv (fun j oj hj hjk hun hno => by
        have h1 := List.all_eq_true.1 hp j (List.mem_range.2 (Array.getElem?_eq_some_iff.1 hj).1)
        simp only [Bool.or_eq_true, hj, Bool.and_eq_true, Bool.not_eq_true'] at h1
        rcases h1 with ((h1 | h1) | h1) | h1
        · exact absurd (Nat.eq_of_beq_eq_true h1) hjk
        · rw [hun] at h1; cases h1
        · rw [hno] at h1; cases h1
        · exact ⟨h1.1, fun hs => by rcases h1.2 with h2 | h2; · rw [hs] at h2; cases h2
                                    · exact h2⟩) hr' (yf_of hy) (T_heads hsel ks _ _ (inv.set hr') hB' hrest hL)
      rw [List.length_cons, show ks.length + 1 + g = ks.length + g + 1 by omega]
      exact this
    · cases hk

theorem T_tails {Q : Act → World → Prop} {Q' : Exit → Act → World → Prop} (hQ : ∀ e a w, Q' e a w → e = .normal ∧ Q a w) : ∀ (ts : List Nat) (listed : Array Bool) (a : Act) (w : World), tailsB md ops ts listed = true →
    wpList P ops Q' (ts.filterMap (ops[·]?)) a w → wpT P md ops Q ts.length listed a w
  | [], listed, a, w, hB, h => ⟨by simpa [tailsB] using hB, (hQ _ _ _ h).2⟩
  | t :: ts, listed, a, w, hB, h => by
    simp only [tailsB, Bool.and_eq_true, decide_eq_true_eq] at hB
    obtain ⟨⟨hr, ht⟩, hB'⟩ := hB
    split at ht
    · rename_i o ho
      rw [List.filterMap_cons_some (by exact ho)] at h
      refine ⟨fun h1 => (by rw [hr] at h1; cases h1), fun i hi => ?_⟩
      rw [hr] at hi
      obtain rfl : i = t := by simpa using hi
      unfold stp
      simp only [ho, Option.any_some, ht]
      unfold wpList at h
      split
      · rename_i hw
        rw [if_pos hw] at h
        rcases h with h | ⟨_, a', w', h⟩
        · unfold Oper.wp at h
          generalize hq : (execOp a.eval o).run P w = q at h
          cases q with
          | ok n w' =>
            have := store_result ht hq
            subst this
            exact ⟨w', rfl, T_tails hQ ts _ _ _ hB' h⟩
          | halt x w' =>
            cases x <;> simp only [Oper.upon] at h
            exact absurd (hQ _ _ _ h).1 (by simp)
        · exact absurd (hQ _ _ _ h).1 (by simp)
      · rename_i hw
        rw [if_neg hw] at h
        exact T_tails hQ ts _ _ _ hB' h
    · cases ht

theorem wp_region_ord {id : Nat} {Q Q' : Exit → Act → World → Prop} {a : Act} {w : World} (hm : P.follows .mixedOrders = true) (hB : ordB P .any ops = true) (hQ : ∀ e a w, Q' e a w → e = .normal ∧ Q .normal a w)
    (h : wpStill P ops { w with drawn := w.drawn + 1 } (fun a' => wpList P ops Q' ((tailIx ops).filterMap (ops[·]?)) a' { w with drawn := w.drawn + 1 }) ((headIx ops).filterMap (ops[·]?)) a) : (Code.region id ops true).wp P Q a w := by
  simp only [ordB, Bool.and_eq_true] at hB
  obtain ⟨⟨⟨hsel, hlen⟩, hh⟩, ht⟩ := hB
  refine wp_region_any hm ?_
  rw [← Nat.eq_of_beq_eq_true hlen]
  refine wpAny_of_T (Q := Q .normal) (fun _ _ h => h) _ _ _ _ ?_
  have e : Array.replicate ((headIx ops).length + (tailIx ops).length) false = Array.replicate ops.size false := by rw [Nat.eq_of_beq_eq_true hlen]
  rw [e]
  exact T_heads (Region.noSelect_spec hsel) _ _ _ Clo.none hh h fun a' ha' => T_tails hQ _ _ _ _ ht ha'
end
end Go.Ev

/- Every pure operation of the evaluator yields what the machine's operation yields, in every world that has the same old memory. No conditions. -/
import Derived.Test.YtlfeobdfgmlmpaaGreatDoorEvD
import Derived.MapKept
namespace Go.Ev
open Go.RowKit Go.MapKept
section
variable {P : Program} {mem : List (Option Blk)} {ρ : Map} {B : Nat} {w : World}

theorem adr_index (L : Loc) (e i : Nat) : (L.adr e 0).add (i * L.sz) = L.adr (e + i) 0 := by
  unfold Loc.adr Addr.add
  split
  · rename_i h
    simp [Nat.add_mul, h]
  · simp [Nat.add_mul, Nat.add_assoc]

theorem V.arr {N : Nat} {xs ys : List Operand} {ea ec : Operand → Value} (h : ∀ x, V ρ N (ea x) (ec x)) (hxy : xs = ys) : ∀ (i : Nat) (x y : Value), (xs.map ea)[i]? = some x → (ys.map ec)[i]? = some y → V ρ N x y := by
  intro i x y hx hy
  subst hxy
  simp only [List.getElem?_map, Option.map_eq_some_iff] at hx hy
  obtain ⟨p, hp, rfl⟩ := hx
  obtain ⟨q, hq, rfl⟩ := hy
  rw [hp] at hq
  cases hq
  exact h p

theorem live_of (hm : MemR mem ρ B w) {id : Nat} {b : Blk} (hb : mem[id]? = some (some b)) : ρ id ≠ none := by
  obtain ⟨L, hL, _⟩ := hm.blk id b hb
  rw [hL]; exact Option.some_ne_none _

theorem mget_find {z : Value} {s : ByteArray} : ∀ (l : List MapEntry) (i : Nat), (∀ x ∈ l, ∃ t, x.key = .string t) →
    (Instr.findNow .string (.string s) l i = some none ∧ mget z l s = z) ∨ ∃ j e, Instr.findNow .string (.string s) l i = some (some (i + j, e.val)) ∧ l[j]? = some e ∧ e.key = .string s ∧ mget z l s = e.val
  | [], _, _ => .inl ⟨rfl, rfl⟩
  | e :: es, i, h => by
    obtain ⟨t, ht⟩ := h e (.head _)
    by_cases hts : t = s
    · subst hts
      refine .inr ⟨0, e, ?_, rfl, ht, by simp [mget, ht]⟩
      have : (t == t) = true := (bytes_beq t t).2 rfl
      simp [Instr.findNow, Instr.sameNow, ht, this]
    · have hne : (s == t) = false := by
        cases hb : s == t with
        | false => rfl
        | true => exact absurd ((bytes_beq s t).1 hb).symm hts
      rcases mget_find (z := z) (s := s) es (i + 1) (fun x hx => h x (.tail _ hx)) with ⟨h1, h2⟩ | ⟨j, e', h1, h2, h3, h4⟩
      · exact .inl ⟨by simp [Instr.findNow, Instr.sameNow, ht, hne, h1], by simp [mget, ht, hts, h2]⟩
      · exact .inr ⟨j + 1, e', by simp [Instr.findNow, Instr.sameNow, ht, hne, h1]; omega, by simpa using h2, h3, by simp [mget, ht, hts, h4]⟩

/-- A look-up in a map of strings. -/
theorem run_lookup_str {w : World} {t kt et : TypeId} {r : Nat} {s : ByteArray} {es : Array MapEntry} {clock : Nat} {z : Value} {i : TypeInfo} (ht : P.underlying t = some (.map kt et)) (hk : P.underlying kt = some .string) (hi : P.info? et = some i) (hz : i.zero = some z) (hb : w.heap[r]? = some (.map es clock))
    (hes : ∀ x ∈ es.toList, ∃ t, x.key = .string t) : (Instr.lookup t (.map (some r)) (.string s) false).run P w = .ok (mget z es.toList s) w := by
  have hck : (Instr.checkKey es.isEmpty 10000 kt (.string s)).run P w = .ok () w := MapKept.run_checkKey (w := w) hk (k := .string s) trivial es.isEmpty 9999
  rcases mget_find (z := z) (s := s) es.toList 0 hes with ⟨h1, h2⟩ | ⟨j, e, h1, _, _, h2⟩
  · have hf := MapKept.run_findKey (w := w) hk h1
    simp [Instr.lookup, run_underlying ht, MapKept.run_getObj_map hb, hck, hf, zeroValue, run_typeInfo hi, hz, h2]
  · have hf := MapKept.run_findKey (w := w) hk h1
    simp [Instr.lookup, run_underlying ht, MapKept.run_getObj_map hb, hck, hf, h2]

theorem run_builtin (a : Act) (o : Oper) (c : Call) (b : Builtin) (ho : o.op = .call c) (hc : c.callee = .builtin b) : ∃ consts, ∀ w : World, (execOp a.eval o).run P w = (builtin b c.argTypes o.type consts (c.args.map a.eval)).run P w := by
  refine ⟨c.args.map fun | .const _ => true | _ => false, fun w => ?_⟩
  simp only [execOp, ho, resolve, hc, Sem.run_bind, Sem.run_pure, Result.andThen_ok, invoke]
  rfl

theorem evPure_sound {α : Type} (hm : MemR mem ρ B w) {ea : Operand → Value} {a : Act} (hE : ∀ x, V ρ mem.length (ea x) (a.eval x)) {o : Oper} {k : Value → Option α} {r : α} (h : evPure P mem ea o k = some r) :
    ∃ v cv, k v = some r ∧ V ρ mem.length v cv ∧ ∀ w', Below w.heap.size w w' → (execOp a.eval o).run P w' = .ok (.value cv) w' := by
  unfold evPure at h
  split at h
  · rename_i x ho
    exact ⟨_, _, h, hE x, fun w' _ => by simp [execOp, ho]⟩
  · rename_i x ho
    exact ⟨_, _, h, hE x, fun w' _ => by simp [execOp, ho]⟩
  · rename_i c x y ho
    have hc := hE c
    split at h
    · rename_i b hb
      rw [hb] at hc
      generalize hcc : a.eval c = cc at hc
      cases hc
      cases b with
      | true => exact ⟨_, _, h, hE x, fun w' _ => by simp [execOp, ho, hcc, asBool]⟩
      | false => exact ⟨_, _, h, hE y, fun w' _ => by simp [execOp, ho, hcc, asBool]⟩
    · cases h
  · rename_i t x ho
    split at h
    · rename_i v hv
      obtain ⟨cv, h1, h2⟩ := loadV_sound hm hv (hE x)
      exact ⟨v, cv, h, h1, fun w' hw' => by simp [execOp, ho, h2 w' hw']⟩
    · cases h
  · rename_i x ho
    have hx := hE x
    split at h
    · rename_i p hp
      rw [hp] at hx
      generalize hcc : a.eval x = cc at hx
      cases hx with
      | ptrDead h1 h2 => exact ⟨_, a.eval x, h, by rw [hcc]; exact .ptrDead h1 h2, fun w' _ => by simp [execOp, ho, hcc]⟩
      | ptr h1 h2 h3 => exact ⟨_, a.eval x, h, by rw [hcc]; exact .ptr h1 h2 h3, fun w' _ => by simp [execOp, ho, hcc]⟩
    · cases h
  · rename_i op t x y yt ho
    obtain ⟨v, h1, h2, h3⟩ := binV_sound (ox := x) (oy := y) h (hE x) (hE y)
    exact ⟨v, v, h1, h2, fun w' _ => by
      simp only [execOp, ho]
      rw [Sem.run_bind, h3]
      rfl⟩
  · rename_i op t x ho
    have hx := hE x
    split at h
    · rename_i b hb
      rw [hb] at hx
      generalize hcc : a.eval x = cc at hx
      cases hx
      exact ⟨_, _, h, .bool, fun w' _ => by simp [execOp, ho, hcc, Op.unary]⟩
    · rename_i kd n hb
      rw [hb] at hx
      generalize hcc : a.eval x = cc at hx
      cases hx
      exact ⟨_, _, h, .int, fun w' _ => by simp [execOp, ho, hcc, Op.unary, Op.intArith]⟩
    · rename_i kd n hb
      rw [hb] at hx
      generalize hcc : a.eval x = cc at hx
      cases hx
      refine ⟨_, _, h, .int, fun w' _ => ?_⟩
      cases hs : kd.signed <;> simp [execOp, ho, hcc, Op.unary, Op.intBits, hs]
    · cases h
  · rename_i src dst x ho
    have hx := hE x
    split at h
    · rename_i v hv
      unfold convV at hv
      split at hv
      · rename_i d kd k' n hs hd hn
        cases hv
        rw [hn] at hx
        generalize hcc : a.eval x = cc at hx
        cases hx
        exact ⟨_, _, h, .int, fun w' _ => by simp [execOp, ho, hcc, convert, run_underlying hs, run_underlying hd, Conv.intToInt]⟩
      · rename_i d s hs hd hn
        cases hv
        rw [hn] at hx
        generalize hcc : a.eval x = cc at hx
        cases hx
        exact ⟨_, _, h, .str, fun w' _ => by simp [execOp, ho, hcc, convert, run_underlying hs, run_underlying hd]⟩
      · cases hv
    · cases h
  · rename_i t x i ho
    have hx := hE x
    split at h
    · rename_i fs id e j hu hp
      rw [hp] at hx
      split at h
      · rename_i f hf
        split at h
        · rename_i fi hfi
          split at h
          · cases h
          · rename_i hsz
            generalize hcc : a.eval x = cc at hx
            have hrun : ∀ (p : Addr) (w' : World), a.eval x = .pointer (some p) → (execOp a.eval o).run P w' = .ok (.value (.pointer (some (p.add f.offset)))) w' := by
              intro p w' hp'
              simp [execOp, ho, hp', Instr.fieldAt, run_underlying hu, hf, Instr.sureAddr, fieldPlace, run_sizeOf hfi, hsz]
            cases hx with
            | ptrDead h1 h2 => exact ⟨_, _, h, .ptrDead h1 h2, fun w' _ => hrun _ w' hcc⟩
            | ptr h1 h2 h3 =>
              refine ⟨_, _, h, .ptr h1 h2 h3, fun w' _ => ?_⟩
              rw [hrun _ w' hcc, Loc.adr_add]
        · cases h
      · cases h
    · cases h
  · rename_i t x i ho
    have hx := hE x
    split at h
    · rename_i fs cs hu hp
      rw [hp] at hx
      split at h
      · rename_i f hf
        split at h
        · rename_i v hv
          generalize hcc : a.eval x = cc at hx
          cases hx with
          | agg hs hx =>
          obtain ⟨cv, h1, h2⟩ := partV_sound hv hs hx
          exact ⟨v, cv, h, h1, fun w' _ => by simp [execOp, ho, hcc, Instr.field, run_underlying hu, hf, asAgg, h2]⟩
        · cases h
      · cases h
    · cases h
  · rename_i t x i ho
    have hx := hE x
    have hi := hE i
    split at h
    · rename_i el id e len c kd n hu hp hn
      rw [hp] at hx
      rw [hn] at hi
      split at h
      · rename_i ei b hei hb
        split at h
        case h_2 => cases h
        rename_i ks rr hro
        split at h
        · rename_i hsz
          obtain ⟨hcond, hk⟩ := br_none' h
          simp only [Bool.and_eq_true, decide_eq_true_eq] at hcond
          generalize hcc : a.eval x = cc at hx
          generalize hci : a.eval i = ci at hi
          cases hi
          obtain ⟨L', hL', hbr⟩ := hm.blk _ _ hb
          cases hx with
          | sliceDead h1 h2 => exact absurd h2 (live_of hm hb)
          | @slice _ _ _ L a' cap h1 h2 h3 h4 h5 h6 =>
            have hLL : L' = L := by rw [h2] at hL'; exact (Option.some.inj hL').symm
            rw [hLL] at hbr
            have ha' : a' = some (L.adr e 0) := h5 (by omega)
            subst ha'
            have hLsz : L.sz = ei.size := by rw [(hbr.shape hro).2, hsz]
            refine ⟨_, _, hk, .ptr (L := L) (j := 0) h1 h2 (by omega), fun w' _ => ?_⟩
            simp only [execOp, ho, hcc, hci]
            simp [Instr.indexAt, run_underlying hu, asIntOf, hcond, run_sizeOf hei]
            rw [← hLsz, adr_index]
        · cases h
      · cases h
    · rename_i len el id e j kd n hu hp hn
      rw [hp] at hx
      rw [hn] at hi
      split at h
      · rename_i ei hei
        obtain ⟨hcond, hk⟩ := br_none' h
        simp only [Bool.and_eq_true, decide_eq_true_eq] at hcond
        obtain ⟨q, hq, hk'⟩ := pickN_some hk
        subst hq
        have hql : q < len := by omega
        generalize hcc : a.eval x = cc at hx
        generalize hci : a.eval i = ci at hi
        cases hi
        have hrun : ∀ (p : Addr) (w' : World), a.eval x = .pointer (some p) → (execOp a.eval o).run P w' = .ok (.value (.pointer (some (p.add (q * ei.size))))) w' := by
          intro p w' hp'
          simp only [execOp, ho, hp', hci]
          simp [Instr.indexAt, run_underlying hu, asIntOf, hcond, hql, run_sizeOf hei, Instr.sureAddr]
        cases hx with
        | ptrDead h1 h2 => exact ⟨_, _, hk', .ptrDead h1 h2, fun w' _ => hrun _ w' hcc⟩
        | ptr h1 h2 h3 =>
          refine ⟨_, _, hk', .ptr h1 h2 h3, fun w' _ => ?_⟩
          rw [hrun _ w' hcc, Loc.adr_add]
      · cases h
    · cases h
  · rename_i t x i ho
    have hx := hE x
    have hi := hE i
    split at h
    · rename_i len el cs kd n hu hp hn
      rw [hp] at hx
      rw [hn] at hi
      split at h
      · rename_i ei hei
        obtain ⟨hcond, hk⟩ := br_none' h
        simp only [Bool.and_eq_true, decide_eq_true_eq] at hcond
        obtain ⟨q, hq, hk'⟩ := pickN_some hk
        subst hq
        have hql : q < len := by omega
        split at hk'
        · rename_i v hv
          generalize hcc : a.eval x = cc at hx
          generalize hci : a.eval i = ci at hi
          cases hi
          cases hx with
          | agg hs hx =>
          obtain ⟨cv, h1, h2⟩ := partV_sound hv hs hx
          refine ⟨v, cv, hk', h1, fun w' _ => ?_⟩
          simp only [execOp, ho, hcc, hci]
          simp [Instr.index, run_underlying hu, asIntOf, hcond, hql, run_sizeOf hei, h2]
        · cases hk'
      · cases h
    · rename_i s kd n hu hp hn
      rw [hp] at hx
      rw [hn] at hi
      obtain ⟨hcond, hk⟩ := br_none' h
      simp only [Bool.and_eq_true, decide_eq_true_eq] at hcond
      generalize hcc : a.eval x = cc at hx
      generalize hci : a.eval i = ci at hi
      cases hi
      cases hx
      refine ⟨_, _, hk, .int, fun w' _ => ?_⟩
      have hlt : n.toNat < s.size := by omega
      have hget : s[n.toNat]? = some (s.data.getD n.toNat 0) := by
        rw [show s[n.toNat]? = some s[n.toNat] from getElem?_pos s n.toNat hlt]
        congr 1
        have hlt' : n.toNat < s.data.size := hlt
        rw [Array.getD_eq_getD_getElem?, Array.getElem?_eq_getElem hlt', Option.getD_some]
        rfl
      simp only [execOp, ho, hcc, hci, Instr.index, Sem.run_bind, run_underlying hu, asIntOf, Sem.run_pure, Result.andThen_ok, if_pos hcond.1, hget]
    · cases h
  · rename_i x i ho
    have hx := hE x
    split at h
    · rename_i vs hp
      rw [hp] at hx
      split at h
      · rename_i v hv
        generalize hcc : a.eval x = cc at hx
        cases hx with
        | tuple hs hx =>
        rename_i ys
        have hlt : i < ys.size := by rw [← hs]; exact (Array.getElem?_eq_some_iff.1 hv).1
        exact ⟨v, ys[i], h, hx i v _ hv (Array.getElem?_eq_getElem hlt), fun w' _ => by simp [execOp, ho, hcc, Instr.extract, hlt]⟩
      · cases h
    · cases h
  · rename_i t x i ho
    have hx := hE x
    have hi := hE i
    split at h
    · rename_i kt et id s ht hx' hi'
      rw [hx'] at hx
      rw [hi'] at hi
      generalize hcx : a.eval x = cx at hx
      generalize hci : a.eval i = ci at hi
      cases hi
      have key : ∀ {ck : CK} {I : ByteArray → Int} {Bo : ByteArray → Bool} {z : Value} (_ : mem[id]? = some (some (.map ck I Bo))) (_ : P.underlying kt = some .string) (_ : (P.info? et).bind (·.zero) = some z), ∃ f, mapV ck I Bo = some ((mapV ck I Bo).elim z (·.1), f) ∧
          ((mapV ck I Bo).elim z (·.1) = z → ∀ w', Below w.heap.size w w' → (execOp a.eval o).run P w' = .ok (.value (f s)) w') := by
        intro ck I Bo z hb hk hz
        obtain ⟨L, hL, h1, h2, h3, es, clock, h4, z', f, h5, h6, h7⟩ := hm.blk id _ hb
        refine ⟨f, by rw [h5]; rfl, fun hz' w' hw' => ?_⟩
        rw [h5] at hz'
        obtain ⟨it, hit, hiz⟩ := Option.bind_eq_some_iff.1 hz
        cases hx with
        | mapDead _ g => exact absurd g (live_of hm hb)
        | @map _ M _ g =>
          rw [hL] at g
          cases g
          have hlt := (Array.getElem?_eq_some_iff.1 h4).1
          have h4' : w'.heap[L.b]? = some (.map es clock) := (hw'.block _ hlt).trans h4
          have hz'' : z' = z := hz'
          subst hz''
          simp [execOp, ho, hcx, hci, run_lookup_str ht hk hit hiz h4' h6, h7 s]
      split at h
      · rename_i kd I Bo kd' hk hb hz
        split at h
        · rename_i hkd
          subst hkd
          obtain ⟨f, f1, f2⟩ := key hb hk hz
          simp only [mapV, Option.some.injEq, Prod.mk.injEq] at f1
          have f3 := f2 rfl
          rw [← f1.2] at f3
          exact ⟨_, _, h, .int, f3⟩
        · cases h
      · rename_i I Bo hk hb hz
        obtain ⟨f, f1, f2⟩ := key hb hk hz
        simp only [mapV, Option.some.injEq, Prod.mk.injEq] at f1
        have f3 := f2 rfl
        rw [← f1.2] at f3
        exact ⟨_, _, h, .bool, f3⟩
      · cases h
    · cases h
  · rename_i fn first captured ho
    refine ⟨_, .func fn (first.map a.eval) (captured.map a.eval), h, .func (by simp) (fun i x y hx hy => ?_) (by simp) (fun i x y hx hy => ?_), fun w' _ => by simp [execOp, ho, Instr.makeFunc]⟩
    · simp only [Array.getElem?_map, Option.map_eq_some_iff] at hx hy
      obtain ⟨p, hp, rfl⟩ := hx
      obtain ⟨q, hq, rfl⟩ := hy
      rw [hp] at hq; cases hq; exact hE p
    · simp only [Array.getElem?_map, Option.map_eq_some_iff] at hx hy
      obtain ⟨p, hp, rfl⟩ := hx
      obtain ⟨q, hq, rfl⟩ := hy
      rw [hp] at hq; cases hq; exact hE p
  · rename_i c ho
    split at h
    · rename_i hcal
      split at h
      · rename_i t x ht hxs
        have hat : c.argTypes = #[t] := by rw [← Array.toArray_toList (xs := c.argTypes), ht]
        have has : c.args = #[x] := by rw [← Array.toArray_toList (xs := c.args), hxs]
        have hx := hE x
        obtain ⟨consts, hb⟩ := run_builtin (P := P) a o c .len ho hcal
        split at h
        · rename_i el sa n sc hu hp
          rw [hp] at hx
          generalize hcc : a.eval x = cc at hx
          have key : ∀ a' c', a.eval x = .slice a' n c' → ∀ w', (execOp a.eval o).run P w' = .ok (.value (.int .i64 (n : Int))) w' := by
            intro a' c' hh w'
            rw [hb, has, hat]
            simp [builtin, Builtin.len_, hh, run_underlying hu, goInt]
          cases hx with
          | sliceNil => exact ⟨_, _, h, .int, fun w' _ => key _ _ hcc w'⟩
          | sliceDead h1 h2 =>
            exact ⟨_, _, h, .int, fun w' _ => key _ _ hcc w'⟩
          | slice h1 h2 h3 h4 h5 h6 => exact ⟨_, _, h, .int, fun w' _ => key _ _ hcc w'⟩
        · rename_i s hu hp
          rw [hp] at hx
          generalize hcc : a.eval x = cc at hx
          cases hx
          refine ⟨_, _, h, .int, fun w' _ => ?_⟩
          rw [hb, has, hat]
          simp [builtin, Builtin.len_, hcc, run_underlying hu, goInt]
        · rename_i n el hu
          refine ⟨_, _, h, .int, fun w' _ => ?_⟩
          rw [hb, has, hat]
          simp [builtin, Builtin.len_, run_underlying hu, goInt]
        · cases h
      · cases h
    · rename_i hcal
      split at h
      · rename_i kd x kd' y hl
        obtain ⟨consts, hb⟩ := run_builtin (P := P) a o c .min ho hcal
        obtain ⟨p, q, hpq⟩ : ∃ p q, c.args.toList = [p, q] := by
          have hlen : c.args.toList.length = 2 := by have := congrArg List.length hl; simpa using this
          match hc : c.args.toList, hlen with
          | [p, q], _ => exact ⟨p, q, rfl⟩
        rw [hpq] at hl
        simp only [List.map_cons, List.map_nil, List.cons.injEq, and_true] at hl
        have has : c.args = #[p, q] := by rw [← Array.toArray_toList (xs := c.args), hpq]
        have h1 := hE p
        have h2 := hE q
        rw [hl.1] at h1
        rw [hl.2] at h2
        generalize hc1 : a.eval p = c1 at h1
        generalize hc2 : a.eval q = c2 at h2
        cases h1; cases h2
        refine ⟨_, _, h, .int, fun w' _ => ?_⟩
        rw [hb, has]
        simp [builtin, Builtin.min_, hc1, hc2, Builtin.min2]
      · cases h
    · rename_i hcal
      split at h
      · rename_i kd x kd' y hl
        obtain ⟨consts, hb⟩ := run_builtin (P := P) a o c .max ho hcal
        obtain ⟨p, q, hpq⟩ : ∃ p q, c.args.toList = [p, q] := by
          have hlen : c.args.toList.length = 2 := by have := congrArg List.length hl; simpa using this
          match hc : c.args.toList, hlen with
          | [p, q], _ => exact ⟨p, q, rfl⟩
        rw [hpq] at hl
        simp only [List.map_cons, List.map_nil, List.cons.injEq, and_true] at hl
        have has : c.args = #[p, q] := by rw [← Array.toArray_toList (xs := c.args), hpq]
        have h1 := hE p
        have h2 := hE q
        rw [hl.1] at h1
        rw [hl.2] at h2
        generalize hc1 : a.eval p = c1 at h1
        generalize hc2 : a.eval q = c2 at h2
        cases h1; cases h2
        refine ⟨_, _, h, .int, fun w' _ => ?_⟩
        rw [hb, has]
        simp [builtin, Builtin.max_, hc1, hc2, Builtin.max2]
      · cases h
    · cases h
  · rename_i t x lo hi mx ho
    have hx := hE x
    have hbound : ∀ (o : Option Operand) (d : Int) (kd : IntKind) (n : Int), (o.map ea).getD (.int .i64 d) = .int kd n → o.map a.eval = none ∧ n = d ∨ ∃ kd, o.map a.eval = some (.int kd n) := by
      intro o d kd n h
      cases o with
      | none => simp at h; exact .inl ⟨rfl, h.2.symm⟩
      | some y =>
        simp at h
        have hy := hE y
        rw [h] at hy
        generalize hcy : a.eval y = cy at hy
        cases hy
        exact .inr ⟨kd, by simp [hcy]⟩
    have hsb : ∀ (kd : IntKind) (n : Int) (y : Nat) (code : BoundsCode) (w' : World), 0 ≤ n → n ≤ (y : Int) → (Instr.sliceBound (.int kd n) y code).run P w' = .ok n.toNat w' := by
      intro kd n y code w' h1 h2
      simp [Instr.sliceBound, asIntOf, h1, h2]
    split at h
    · rename_i s hu hp
      rw [hp] at hx
      generalize hcc : a.eval x = cc at hx
      cases hx
      split at h
      · rename_i kl l kh hh hl1 hh1
        obtain ⟨hc1, h⟩ := br_none' h
        obtain ⟨hc2, h⟩ := br_none' h
        simp only [Bool.and_eq_true, decide_eq_true_eq] at hc1 hc2
        refine ⟨_, _, h, .str, fun w' _ => ?_⟩
        have e1 : (Instr.sliceBounds false s.size s.size (lo.map a.eval) (hi.map a.eval) none).run P w' = .ok (l.toNat, hh.toNat, s.size) w' := by
          rcases hbound _ _ _ _ hl1 with ⟨q1, q2⟩ | ⟨kd1, q1⟩ <;> rcases hbound _ _ _ _ hh1 with ⟨p1, p2⟩ | ⟨kd2, p1⟩
          · simp [Instr.sliceBounds, q1, p1, q2, p2]
          · simp [Instr.sliceBounds, q1, p1, q2, hsb _ _ _ _ _ hc1.1 hc1.2]
          · subst p2
            simp [Instr.sliceBounds, q1, p1, hsb kd1 l s.size .sliceB w' hc2.1 (by simpa using hc2.2)]
          · simp [Instr.sliceBounds, q1, p1, hsb _ _ _ _ _ hc1.1 hc1.2, hsb kd1 l hh.toNat .sliceB w' hc2.1 hc2.2]
        simp only [execOp, ho, hcc, Option.map_none]
        simp [Instr.sliceAt, Instr.slice, run_underlying hu, e1]
      · cases h
    · rename_i el id e len hu hp
      rw [hp] at hx
      generalize hcc : a.eval x = cc at hx
      split at h
      · rename_i ei b hei hb
        split at h
        case h_2 => cases h
        rename_i ks rr hro
        split at h
        · rename_i hsz
          split at h
          · rename_i kl l kh hh hl1 hh1
            obtain ⟨hc1, h⟩ := br_none' h
            obtain ⟨hc2, h⟩ := br_none' h
            simp only [Bool.and_eq_true, decide_eq_true_eq] at hc1 hc2
            obtain ⟨L', hL', hbr⟩ := hm.blk _ _ hb
            cases hx with
            | sliceDead h1 h2 => exact absurd h2 (live_of hm hb)
            | @slice _ _ _ L a' cap h1 h2 h3 h4 h5 h6 =>
              have hLL : L' = L := by rw [h2] at hL'; exact (Option.some.inj hL').symm
              rw [hLL] at hbr
              have hLsz : L.sz = ei.size := by rw [(hbr.shape hro).2, hsz]
              have hcap : hh ≤ (cap : Int) := by omega
              have e1 : ∀ w', (Instr.sliceBounds true len cap (lo.map a.eval) (hi.map a.eval) none).run P w' = .ok (l.toNat, hh.toNat, cap) w' := by
                intro w'
                rcases hbound _ _ _ _ hl1 with ⟨q1, q2⟩ | ⟨kd1, q1⟩ <;> rcases hbound _ _ _ _ hh1 with ⟨p1, p2⟩ | ⟨kd2, p1⟩
                · simp [Instr.sliceBounds, q1, p1, q2, p2]
                · simp [Instr.sliceBounds, q1, p1, q2, hsb _ _ _ _ _ hc1.1 hcap]
                · subst p2
                  simp [Instr.sliceBounds, q1, p1, hsb kd1 l len .sliceB w' hc2.1 (by simpa using hc2.2)]
                · simp [Instr.sliceBounds, q1, p1, hsb _ _ _ _ _ hc1.1 hcap, hsb kd1 l hh.toNat .sliceB w' hc2.1 hc2.2]
              refine ⟨_, _, h, .slice (L := L) (cap := cap - l.toNat) (a := if cap = l.toNat then a' else a'.map (·.add (l.toNat * ei.size))) h1 h2 (by omega) (by omega) (fun hpos => ?_) (fun ho => ⟨by have := (h6 ho).1; omega, ?_⟩), fun w' _ => ?_⟩
              · have hcl : ¬ cap = l.toNat := by omega
                rw [if_neg hcl, h5 (by omega), Option.map_some, ← hLsz, adr_index]
              · by_cases hcl : cap = l.toNat
                · exact .inl (by omega)
                · right
                  rw [if_neg hcl]
                  rcases (h6 ho).2 with h6 | h6
                  · omega
                  · rw [h6, Option.map_some, ← hLsz, adr_index]
              · simp only [execOp, ho, hcc, Option.map_none]
                simp [Instr.sliceAt, Instr.slice, run_underlying hu, e1, run_sizeOf hei]
          · cases h
        · cases h
      · cases h
    · rename_i el id e len mo hu hp
      rw [hp] at hx
      generalize hcc : a.eval x = cc at hx
      split at h
      · rename_i ei b hei hb
        split at h
        case h_2 => cases h
        rename_i ks rr hro
        split at h
        · rename_i hsz
          split at h
          · rename_i kl l kh hh km m hl1 hh1 hm1
            obtain ⟨hc0, h⟩ := br_none' h
            obtain ⟨hc1, h⟩ := br_none' h
            obtain ⟨hc2, h⟩ := br_none' h
            simp only [Bool.and_eq_true, decide_eq_true_eq] at hc0 hc1 hc2
            obtain ⟨hio, hhi, hh2⟩ := Option.map_eq_some_iff.1 hh1
            have hvh := hE hio
            rw [hh2] at hvh
            generalize hch : a.eval hio = ch at hvh
            cases hvh
            have hvm := hE mo
            rw [hm1] at hvm
            generalize hcm : a.eval mo = cm at hvm
            cases hvm
            obtain ⟨L', hL', hbr⟩ := hm.blk _ _ hb
            cases hx with
            | sliceDead h1 h2 => exact absurd h2 (live_of hm hb)
            | @slice _ _ _ L a' cap h1 h2 h3 h4 h5 h6 =>
              have hLL : L' = L := by rw [h2] at hL'; exact (Option.some.inj hL').symm
              rw [hLL] at hbr
              have hLsz : L.sz = ei.size := by rw [(hbr.shape hro).2, hsz]
              have hcap : m ≤ (cap : Int) := by omega
              have e1 : ∀ w', (Instr.sliceBounds true len cap (lo.map a.eval) (hi.map a.eval) (some (.int km m))).run P w' = .ok (l.toNat, hh.toNat, m.toNat) w' := by
                intro w'
                rw [hhi, Option.map_some, hch]
                rcases hbound _ _ _ _ hl1 with ⟨q1, q2⟩ | ⟨kd1, q1⟩
                · simp [Instr.sliceBounds, q1, q2, hsb km m cap .slice3Acap w' hc0.1 hcap, hsb kh hh m.toNat .slice3B w' hc1.1 (by omega)]
                · simp [Instr.sliceBounds, q1, hsb km m cap .slice3Acap w' hc0.1 hcap, hsb kh hh m.toNat .slice3B w' hc1.1 (by omega), hsb kd1 l hh.toNat .slice3C w' hc2.1 hc2.2]
              refine ⟨_, _, h, .slice (L := L) (cap := m.toNat - l.toNat) (a := if m.toNat = l.toNat then a' else a'.map (·.add (l.toNat * ei.size))) h1 h2 (by omega) (by omega) (fun hpos => ?_) (fun ho => ⟨by have := (h6 ho).1; omega, ?_⟩), fun w' _ => ?_⟩
              · have hcl : ¬ m.toNat = l.toNat := by omega
                rw [if_neg hcl, h5 (by omega), Option.map_some, ← hLsz, adr_index]
              · by_cases hcl : m.toNat = l.toNat
                · exact .inl (by omega)
                · right
                  rw [if_neg hcl]
                  rcases (h6 ho).2 with h6 | h6
                  · omega
                  · rw [h6, Option.map_some, ← hLsz, adr_index]
              · simp only [execOp, ho, hcc, Option.map_some, hcm]
                simp [Instr.sliceAt, Instr.slice, run_underlying hu, e1, run_sizeOf hei]
          · cases h
        · cases h
      · cases h
    · cases h
  · cases h
end
end Go.Ev

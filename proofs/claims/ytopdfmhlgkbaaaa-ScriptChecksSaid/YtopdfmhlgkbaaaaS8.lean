/- Check and Names of both sides; Twin. No conditions. -/
import Derived.Test.YtopdfmhlgkbaaaaS7
namespace Go.Ev
set_option linter.all false
/-- A loop that goes through all its rounds. -/
structure FoldL (ι β : Type) where
  f : FuncId
  id : Nat
  lv : List Tmp
  lx : List Tmp
  p : PSt
  dat : List It → Option ι
  S : ι → Nat → β → List It
  len : ι → Nat
  cnd : ι → Bool
  ini : ι → β
  nx : ι → Nat → β → β
  Ke : ι → β → (X → St → Option (List D)) → Option (List D)
def fldN {β : Type} (nx : Nat → β → β) : Nat → Nat → β → β
  | 0, _, a => a
  | m + 1, j, a => fldN nx m (j + 1) (nx j a)
def FoldL.G {ι β : Type} (s : FoldL ι β) (its : List It) (k : X → St → Option (List D)) : Option (List D) := match s.dat its with
  | some x => br (s.cnd x) (s.Ke x (fldN (s.nx x) (s.len x) 0 (s.ini x)) k) none
  | none => none
def FoldL.C {ι β : Type} (s : FoldL ι β) : LoopC := ⟨s.f, s.id, s.lv, s.lx, s.p, s.G⟩
theorem fold_inv {β : Type} {nx : Nat → β → β} {Inv : Nat → β → Prop} {len : Nat} (hI : ∀ j a, j < len → Inv j a → Inv (j + 1) (nx j a)) : ∀ {m j : Nat} {a : β}, j + m = len → Inv j a → Inv len (fldN nx m j a)
  | 0, j, a, hj, h => (show j = len by omega) ▸ h
  | m + 1, j, a, hj, h => fold_inv hI (m := m) (by omega) (hI j a (by omega) h)
theorem fold_go {β : Type} {f : St → (X → St → Option (List D)) → Option (List D)} {lv : List Tmp} {lx : Option (List Tmp)} {S : Nat → β → St} {len : Nat} {nx : Nat → β → β} {Ke : β → (X → St → Option (List D)) → Option (List D)} {Inv : Nat → β → Prop}
    (hI : ∀ j a, j < len → Inv j a → Inv (j + 1) (nx j a))
    (hr : ∀ j a, j < len → Inv j a → ∀ R K, f (S j a) (rnd lv lx R K) = R (S (j + 1) (nx j a))) (he : ∀ a, Inv len a → ∀ R K, f (S len a) (rnd lv lx R K) = Ke a K) (K : X → St → Option (List D)) :
    ∀ (m j : Nat) (a : β), j + m = len → Inv j a → ∀ N, m < N → rounds lv lx f N (S j a) K = Ke (fldN nx m j a) K
  | 0, j, a, hj, h, N, hN => by
    obtain ⟨N, rfl⟩ : ∃ N', N = N' + 1 := ⟨N - 1, by omega⟩
    have : j = len := by omega
    subst this
    simp only [rounds, fldN]
    exact he a h _ K
  | m + 1, j, a, hj, h, N, hN => by
    obtain ⟨N, rfl⟩ : ∃ N', N = N' + 1 := ⟨N - 1, by omega⟩
    rw [rnds1, hr j a (by omega) h]
    exact fold_go hI hr he K m (j + 1) (nx j a) (by omega) (hI j a (by omega) h) N (by omega)
theorem FoldL.ok {ι β : Type} {C : Cx} (s : FoldL ι β) (Inv : ι → Nat → β → Prop) (h1 : Nat.beq ((loopsOf C.P s.f).filter fun b => Nat.beq (firstRegion b) s.id).length 1 = true)
    (hS : ∀ its x, s.dat its = some x → s.cnd x = true → Go.Ev.bst s.p its = Go.Ev.bst s.p (s.S x 0 (s.ini x)))
    (hlen : ∀ x, s.cnd x = true → s.len x < C.N) (hI0 : ∀ x, s.cnd x = true → Inv x 0 (s.ini x))
    (hI : ∀ x j a, s.cnd x = true → j < s.len x → Inv x j a → Inv x (j + 1) (s.nx x j a))
    (hr : ∀ q x j a, s.cnd x = true → j < s.len x → Inv x j a → ∀ R K, bodyOf C s.f s.id q (Go.Ev.bst s.p (s.S x j a)) (rnd s.lv (some s.lx) R K) = R (Go.Ev.bst s.p (s.S x (j + 1) (s.nx x j a))))
    (he : ∀ q x a, s.cnd x = true → Inv x (s.len x) a → ∀ R K, bodyOf C s.f s.id q (Go.Ev.bst s.p (s.S x (s.len x) a)) (rnd s.lv (some s.lx) R K) = s.Ke x a K) : LoopOk C s.C := ⟨h1, fun q its k rr h => by
  change s.G its k = some rr at h
  unfold FoldL.G at h
  split at h
  · rename_i x hx
    rcases br_some h with ⟨hc, h2⟩ | ⟨_, h2⟩
    · rw [← h2]
      show rounds s.lv (some s.lx) (bodyOf C s.f s.id q) C.N (Go.Ev.bst s.p its) k = _
      rw [hS its x hx hc]
      exact fold_go (S := fun j a => Go.Ev.bst s.p (s.S x j a)) (Inv := Inv x) (hI x · · hc) (fun j a hj hi R K => hr q x j a hc hj hi R K) (fun a hi R K => he q x a hc hi R K) k (s.len x) 0 (s.ini x) (by omega) (hI0 x hc) C.N (hlen x hc)
    · cases h2
  · cases h⟩
end Go.Ev
namespace Go.Proofs.Ytopdfmhlgkbaaaa
open Go.Ev
set_option linter.all false
theorem sR_at (r : Row) (e j : Nat) (x : Row) (e' j' : Nat) : (r.setR e j x).R e' j' = if e' = e ∧ j' = j then x else r.R e' j' := by
  show (bif Nat.beq e' e && Nat.beq j' j then x else r.R e' j') = _
  by_cases h : e' = e ∧ j' = j
  · rw [if_pos h, h.1, h.2, Nat.beq_refl, Nat.beq_refl]; rfl
  · rw [if_neg h]
    cases h1 : (Nat.beq e' e && Nat.beq j' j)
    · rfl
    · simp only [Bool.and_eq_true] at h1
      exact absurd ⟨Nat.eq_of_beq_eq_true h1.1, Nat.eq_of_beq_eq_true h1.2⟩ h
theorem sI_at (r : Row) (e j : Nat) (x : Int) (e' j' : Nat) : (r.setI e j x).I e' j' = if e' = e ∧ j' = j then x else r.I e' j' := by
  show (bif Nat.beq e' e && Nat.beq j' j then x else r.I e' j') = _
  by_cases h : e' = e ∧ j' = j
  · rw [if_pos h, h.1, h.2, Nat.beq_refl, Nat.beq_refl]; rfl
  · rw [if_neg h]
    cases h1 : (Nat.beq e' e && Nat.beq j' j)
    · rfl
    · simp only [Bool.and_eq_true] at h1
      exact absurd ⟨Nat.eq_of_beq_eq_true h1.1, Nat.eq_of_beq_eq_true h1.2⟩ h
theorem sS_at (r : Row) (e j : Nat) (x : ByteArray) (e' j' : Nat) : (r.setS e j x).S e' j' = if e' = e ∧ j' = j then x else r.S e' j' := by
  show (bif Nat.beq e' e && Nat.beq j' j then x else r.S e' j') = _
  by_cases h : e' = e ∧ j' = j
  · rw [if_pos h, h.1, h.2, Nat.beq_refl, Nat.beq_refl]; rfl
  · rw [if_neg h]
    cases h1 : (Nat.beq e' e && Nat.beq j' j)
    · rfl
    · simp only [Bool.and_eq_true] at h1
      exact absurd ⟨Nat.eq_of_beq_eq_true h1.1, Nat.eq_of_beq_eq_true h1.2⟩ h
theorem app_at (r s : Row) {i : Nat} (h : i < r.n) : ((r.app s).I i = r.I i ∧ (r.app s).S i = r.S i) ∧ (r.app s).R i = r.R i := by
  have e : Nat.blt i r.n = true := by rw [Nat.blt_eq]; exact h
  refine ⟨⟨funext fun j => ?_, funext fun j => ?_⟩, funext fun j => ?_⟩
  · show (bif Nat.blt i r.n then _ else _) = _
    rw [e]; rfl
  · show (bif Nat.blt i r.n then _ else _) = _
    rw [e]; rfl
  · show (bif Nat.blt i r.n then _ else _) = _
    rw [e]; rfl
theorem app_nx (r s : Row) {i : Nat} (h : ¬ i < r.n) : ((r.app s).I i = s.I (i - r.n) ∧ (r.app s).S i = s.S (i - r.n)) ∧ (r.app s).R i = s.R (i - r.n) := by
  have e : Nat.blt i r.n = false := by
    cases hb : Nat.blt i r.n
    · rfl
    · rw [Nat.blt_eq] at hb; exact absurd hb h
  refine ⟨⟨funext fun j => ?_, funext fun j => ?_⟩, funext fun j => ?_⟩
  · show (bif Nat.blt i r.n then _ else _) = _
    rw [e]; rfl
  · show (bif Nat.blt i r.n then _ else _) = _
    rw [e]; rfl
  · show (bif Nat.blt i r.n then _ else _) = _
    rw [e]; rfl
/-- A copy of a row. -/
def cpR (r : Row) : Row := winOf (Row.nil.app (winOf r 0 r.n)) 0 (0 + (winOf r 0 r.n).n)
theorem cpR_n (r : Row) : (cpR r).n = r.n := Nat.zero_add _
theorem cpR_S (r : Row) (i j : Nat) : (cpR r).S i j = r.S i j := rfl
theorem cpR_I (r : Row) (i j : Nat) : (cpR r).I i j = r.I i j := rfl
/-- A line. -/
def lnR (w : Int) (nm nu : Row) : Row := winOf ((((Row.zeros 1).setI 0 0 w).setR 0 1 nm).setR 0 2 nu) 0 1
def pushL (o ln : Row) : Row := (winOf o 0 o.n).app ln
def twN (l : Row) (j : Nat) (o : Row) : Row := pushL o (lnR (l.I j 0) (cpR (l.R j 1)) (cpR (l.R j 2)))
def p5 : PSt := { τ := [.v (.sl 0)] ++ pu 2 ++ [.v (.sl 1), .v (.int .i64)] ++ pu 30, saved := [[]], mem := [.row [.int .u8, .slice [.str], .slice [.int .i64]] false, .deep [.int .u8, .slice [.str], .slice [.int .i64]]] }
def d5 (its : List It) : Option (Nat × Nat × Int × Row × Row) := match its with | [.n n, .n m, .i j, .r l, .r o] => some (n, m, j, l, o) | _ => none
def c5 (n m : Nat) (j : Int) (l o : Row) : Bool := decide (n = l.n ∧ m = o.n ∧ o.n = 0 ∧ j = 0) && okL l
theorem c5_iff {n m : Nat} {j : Int} {l o : Row} : c5 n m j l o = true ↔ (n = l.n ∧ m = o.n ∧ o.n = 0 ∧ j = 0) ∧ okL l = true := by unfold c5; rw [Bool.and_eq_true_iff, decide_eq_true_eq]
def l5 : FoldL (Nat × Nat × Int × Row × Row) Row where
  f := 5
  id := 3
  lv := [0, 3, 4, 2062936850003]
  lx := [2, 3]
  p := p5
  dat := d5
  S := fun (n, m, j, l, o) i a => [.n l.n, .n a.n, .i i, .r l, .r a]
  len := fun (n, m, j, l, o) => l.n
  cnd := fun (n, m, j, l, o) => c5 n m j l o
  ini := fun (n, m, j, l, o) => o
  nx := fun (n, m, j, l, o) => twN l
  Ke := fun _ a K => K (.exit 0) ⟨us 3 ++ [.slice (some ⟨0, 0, some 0⟩) (a.n) (0)] ++ us 31, [[]], [some (.deep [.int .u8, .slice [.str], .slice [.int .i64]] (a) none)]⟩
noncomputable def C5 : Cx := mkCx Try.prog fns [(14, Fknown), (15, FKnown)] [l5.C]
theorem r5 (R : St → Option (List D)) (K : X → St → Option (List D)) (q n m : Nat) (j : Int) (l o : Row) : bodyOf C5 5 3 q (Go.Ev.bst p5 [.n n, .n m, .i j, .r l, .r o]) (rnd [0, 3, 4, 2062936850003] (some [2, 3]) R K) =
    br (decide (j < (↑n : Int))) (br (decide (0 ≤ j) && decide (j < (↑n : Int))) (br (decide (0 ≤ j) && decide (j < (↑n : Int))) (br (decide (0 + (winOf (l.R (0 + j.toNat) 1) 0 (l.R (0 + j.toNat) 1).n).n ≤ 10000000000)) (br (decide (0 ≤ j) && decide (j < (↑n : Int))) (br (decide (0 + (winOf (l.R (0 + j.toNat) 2) 0 (l.R (0 + j.toNat) 2).n).n ≤ 10000000000)) (br (decide (m + 1 ≤ 10000000000)) (R ⟨[.slice (some ⟨0, 0, some 0⟩) (n) (0)] ++ us 2 ++ [.slice (some ⟨1, 0, some 0⟩) (m + 1) (0), i64 (IntKind.i64.wrap (j + 1))] ++ us 30, [[]], [some (.row [.int .u8, .slice [.str], .slice [.int .i64]] false (l)), some (.deep [.int .u8, .slice [.str], .slice [.int .i64]] ((winOf o 0 m).app (lnR (l.I (0 + j.toNat) 0) (cpR (l.R (0 + j.toNat) 1)) (cpR (l.R (0 + j.toNat) 2)))) none)]⟩) (none)) (none)) (none)) (none)) (none)) (none)) (K (.exit 0) ⟨us 3 ++ [.slice (some ⟨0, 0, some 0⟩) (m) (0)] ++ us 31, [[]], [some (.deep [.int .u8, .slice [.str], .slice [.int .i64]] (o) none)]⟩) := by kernel_rfl
theorem t5 (l : Row) : evF C5 6 5 [.slice ksL l] =
    br (c5 l.n 0 0 l Row.nil) (some [.slice [.int .u8, .slice [.str], .slice [.int .i64]] (winOf (fldN (twN l) l.n 0 Row.nil) 0 (fldN (twN l) l.n 0 Row.nil).n)]) (none) := by kernel_rfl
theorem t10 (l : Row) : evF C5 6 10 [.slice ksL l] =
    br (decide ((winOf l 0 l.n).n > 200) || okL (winOf l 0 l.n)) (some [.v (i64 (naE (winOf l 0 l.n)))]) (none) := by kernel_rfl
theorem t11 (l : Row) : evF C5 6 11 [.slice ksL l] =
    br (decide ((↑l.n : Int) > 200)) (some [.v (i64 (4))]) (br (okL (winOf l 0 l.n)) (some [.v (i64 (knE (winOf l 0 l.n)))]) (none)) := by kernel_rfl
theorem t6 (l : Row) : evF C5 6 6 [.slice ksL l] =
    br (decide ((winOf l 0 l.n).n > 200) || okL (winOf l 0 l.n)) (some [.slice [.str, .int .u8] (winOf (naO (winOf l 0 l.n)) 0 (naO (winOf l 0 l.n)).n), .v (i64 (naE (winOf l 0 l.n)))]) (none) := by kernel_rfl
theorem t7 (l : Row) : evF C5 6 7 [.slice ksL l] =
    br (decide ((↑l.n : Int) > 200)) (some [.slice [.str, .int .u8] (Row.nil), .v (i64 (4))]) (br (okL (winOf l 0 l.n)) (br (knE (winOf l 0 l.n) != 0) (some [.slice [.str, .int .u8] (Row.nil), .v (i64 (knE (winOf l 0 l.n)))]) (br (okL (winOf l 0 l.n)) (some [.slice [.str, .int .u8] (winOf (knO (winOf l 0 l.n)) 0 (knO (winOf l 0 l.n)).n), .v (i64 (knE (winOf l 0 l.n)))]) (none))) (none)) := by kernel_rfl
theorem pl_n (o ln : Row) : (pushL o ln).n = o.n + ln.n := rfl
theorem tw_n (l : Row) (j : Nat) (o : Row) : (twN l j o).n = o.n + 1 := rfl
theorem tw_lo (l : Row) (j : Nat) (o : Row) {i : Nat} (h : i < o.n) : lnE (twN l j o) o i i := by
  obtain ⟨⟨h1, _⟩, h2⟩ := app_at (winOf o 0 o.n) (lnR (l.I j 0) (cpR (l.R j 1)) (cpR (l.R j 2))) (i := i) h
  unfold lnE twN pushL
  rw [h1, h2]
  exact lnE.rfl'
theorem tw_hi (l : Row) (j : Nat) (o : Row) : lnE (twN l j o) l o.n j := by
  obtain ⟨⟨h1, _⟩, h2⟩ := app_nx (winOf o 0 o.n) (lnR (l.I j 0) (cpR (l.R j 1)) (cpR (l.R j 2))) (i := o.n) (Nat.lt_irrefl _)
  unfold lnE twN pushL
  rw [h1, h2, show o.n - (winOf o 0 o.n).n = 0 from Nat.sub_self _]
  exact ⟨rfl, ⟨Nat.zero_add _, fun _ _ => rfl⟩, Nat.zero_add _, fun _ _ => rfl⟩
theorem lb_nums {l : Row} {i : Nat} (h : okL l = true) (hi : i < l.n) : (l.R i 2).n ≤ 1000000 := by
  have := lb_valid h hi
  unfold lnB at this
  exact of_decide_eq_true (Bool.and_eq_true_iff.1 this).2
theorem ok5 : LoopOk C5 l5.C := l5.ok (fun _ j a => a.n = j) (by kernel_rfl)
  (fun its x h hc => by
    replace h : d5 its = some x := h
    unfold d5 at h
    split at h
    · cases h
      obtain ⟨⟨h1, h2, h3, h4⟩, _⟩ := c5_iff.1 hc
      subst h1 h2 h4
      rfl
    · cases h)
  (fun ⟨n, m, j, l, o⟩ hc => by
    have := (okL_iff.1 (c5_iff.1 hc).2).1
    show l.n < 18446744073709551616; omega)
  (fun ⟨n, m, j, l, o⟩ hc => (c5_iff.1 hc).1.2.2.1)
  (fun ⟨n, m, j, l, o⟩ i a hc hi hI => by show a.n + 1 = i + 1; rw [hI])
  (fun q ⟨n, m, j, l, o⟩ i a hc hi hI R K => by
    have h0 := (c5_iff.1 hc).2
    have h1 := (okL_iff.1 h0).1
    replace hi : i < l.n := hi
    have h2 := lb_names h0 hi
    have h3 := lb_nums h0 hi
    refine (r5 R K q l.n a.n i l a).trans ?_
    rw [Int.toNat_natCast, Nat.zero_add i, gd i l.n hi, ltd i l.n hi, wsn (by omega)]
    rw [decide_eq_true (show 0 + (winOf (l.R i 1) 0 (l.R i 1).n).n ≤ 10000000000 from (by show 0 + (l.R i 1).n ≤ 10000000000; omega)), decide_eq_true (show 0 + (winOf (l.R i 2) 0 (l.R i 2).n).n ≤ 10000000000 from (by show 0 + (l.R i 2).n ≤ 10000000000; omega)), decide_eq_true (show a.n + 1 ≤ 10000000000 by omega)]
    rfl)
  (fun q ⟨n, m, j, l, o⟩ a hc hI R K => by
    refine (r5 R K q l.n a.n l.n l a).trans ?_
    rw [ltn l.n]
    rfl)
theorem C5_ok : CxOk C5 := mkCx_ok enter mixed (fun p h => by
  simp only [List.mem_cons, List.not_mem_nil, or_false] at h
  rcases h with rfl | rfl
  · exact den_known
  · exact den_Known) (fun l h => by
  simp only [List.mem_cons, List.not_mem_nil, or_false] at h
  rcases h with rfl
  exact ok5)
def wiR (r : Row) : Row := winOf r 0 r.n
/-- Lines, copied. -/
def twR (l : Row) : Row := wiR (fldN (twN l) l.n 0 .nil)
theorem twR_same (l : Row) : saL (twR l) l := by
  have h := fold_inv (Inv := fun j (a : Row) => a.n = j ∧ ∀ i, i < j → lnE a l i i) (nx := twN l) (len := l.n) (fun j a hj h => ⟨by rw [tw_n, h.1], fun i hi => by
    by_cases e : i < j
    · exact (tw_lo l j a (h.1.symm ▸ e)).trans (h.2 i e)
    · have : i = a.n := by have := h.1; omega
      have e2 : j = i := by have := h.1; omega
      have := tw_hi l j a
      rw [h.1, e2] at this
      rw [← e2] at this ⊢
      exact this⟩) (m := l.n) (j := 0) (a := .nil) (by omega) ⟨rfl, fun i hi => by omega⟩
  exact ⟨h.1, fun i hi => h.2 i (by have h1 : (twR l).n = l.n := h.1; omega)⟩
def Ftwin : List D → Option (Bool × List D)
  | [.slice [.int .u8, .slice [.str], .slice [.int .i64]] l] => some (okL l, [.slice [.int .u8, .slice [.str], .slice [.int .i64]] (twR l)])
  | _ => none
theorem den_twin : Den Try.prog 5 Ftwin := evF_den C5_ok fun ds rs h => by
  unfold Ftwin at h
  split at h
  · rename_i l
    simp only [Option.some.injEq, Prod.mk.injEq] at h
    obtain ⟨h0, rfl⟩ := h
    refine (t5 l).trans ?_
    rw [show c5 l.n 0 0 l Row.nil = true from c5_iff.2 ⟨⟨rfl, rfl, rfl, rfl⟩, h0⟩]
    rfl
  · cases h
def Fcheck : List D → Option (Bool × List D)
  | [.slice [.int .u8, .slice [.str], .slice [.int .i64]] l] => some (decide (l.n > 200) || okL l, [.v (i64 (naE l))])
  | _ => none
def Fnames : List D → Option (Bool × List D)
  | [.slice [.int .u8, .slice [.str], .slice [.int .i64]] l] => some (decide (l.n > 200) || okL l, [.slice [.str, .int .u8] (wiR (naO l)), .v (i64 (naE l))])
  | _ => none
/-- What the reference's Names returns. -/
def nqO (l : Row) : Row := bif naE l != 0 then .nil else wiR (naO l)
def FNames : List D → Option (Bool × List D)
  | [.slice [.int .u8, .slice [.str], .slice [.int .i64]] l] => some (decide (l.n > 200) || okL l, [.slice [.str, .int .u8] (nqO l), .v (i64 (naE l))])
  | _ => none
theorem den_check : Den Try.prog 10 Fcheck := evF_den C5_ok fun ds rs h => by
  unfold Fcheck at h
  split at h
  · rename_i l
    simp only [Option.some.injEq, Prod.mk.injEq] at h
    obtain ⟨h0, rfl⟩ := h
    refine (t10 l).trans ?_
    rw [show (decide ((winOf l 0 l.n).n > 200) || okL (winOf l 0 l.n)) = true from h0]
    rfl
  · cases h
theorem den_Check : Den Try.prog 11 Fcheck := evF_den C5_ok fun ds rs h => by
  unfold Fcheck at h
  split at h
  · rename_i l
    simp only [Option.some.injEq, Prod.mk.injEq] at h
    obtain ⟨h0, rfl⟩ := h
    refine (t11 l).trans ?_
    unfold naE
    by_cases hl : l.n > 200
    · rw [decide_eq_true hl, decide_eq_true (show (l.n : Int) > 200 by omega)]; rfl
    · rw [decide_eq_false hl, decide_eq_false (show ¬ (l.n : Int) > 200 by omega)]
      rw [decide_eq_false hl, Bool.false_or] at h0
      rw [show okL (winOf l 0 l.n) = true from h0]
      rfl
  · cases h
theorem den_names : Den Try.prog 6 Fnames := evF_den C5_ok fun ds rs h => by
  unfold Fnames at h
  split at h
  · rename_i l
    simp only [Option.some.injEq, Prod.mk.injEq] at h
    obtain ⟨h0, rfl⟩ := h
    refine (t6 l).trans ?_
    rw [show (decide ((winOf l 0 l.n).n > 200) || okL (winOf l 0 l.n)) = true from h0]
    rfl
  · cases h
theorem den_Names : Den Try.prog 7 FNames := evF_den C5_ok fun ds rs h => by
  unfold FNames at h
  split at h
  · rename_i l
    simp only [Option.some.injEq, Prod.mk.injEq] at h
    obtain ⟨h0, rfl⟩ := h
    refine (t7 l).trans ?_
    unfold nqO naE naO
    by_cases hl : l.n > 200
    · rw [decide_eq_true hl, decide_eq_true (show (l.n : Int) > 200 by omega)]; rfl
    · rw [decide_eq_false hl, decide_eq_false (show ¬ (l.n : Int) > 200 by omega)]
      rw [decide_eq_false hl, Bool.false_or] at h0
      rw [show okL (winOf l 0 l.n) = true from h0]
      show br true (br (knE l != 0) (some [D.slice [.str, .int .u8] Row.nil, D.v (i64 (knE l))]) (br true (some [D.slice [.str, .int .u8] (winOf (knO l) 0 (knO l).n), D.v (i64 (knE l))]) none)) none = some [D.slice [.str, .int .u8] (bif knE l != 0 then .nil else wiR (knO l)), D.v (i64 (knE l))]
      cases knE l != 0 <;> rfl
  · cases h
end Go.Proofs.Ytopdfmhlgkbaaaa

/- Before a round: what is forgotten and numbered anew. No conditions. -/
import Derived.Test.YtpblmkephkhlkaaEvQ
namespace Go.Ev
open Go.RowKit
section
variable {P : Program} {mem mem' : List (Option Blk)} {ρ ρ' : Map} {B : Nat} {w w' : World}

theorem findPos_some : ∀ {l : List Nat} {id i : Nat}, findPos l id = some i → l[i]? = some id
  | [], id, i, h => by simp [findPos] at h
  | x :: xs, id, i, h => by
    simp only [findPos] at h
    split at h
    · rename_i hb
      cases h
      simp [Nat.eq_of_beq_eq_true hb]
    · split at h
      · rename_i j hj
        cases h
        simpa using findPos_some hj
      · cases h

def renM (ρ : Map) (l : List Nat) : Map := fun i => match l[i]? with | some id => ρ id | none => none

theorem renM_pos {l : List Nat} {id i : Nat} (h : findPos l id = some i) : i < l.length ∧ renM ρ l i = ρ id := by
  have h1 := findPos_some h
  exact ⟨(List.getElem?_eq_some_iff.1 h1).1, by simp [renM, h1]⟩

theorem ren1_V {N : Nat} {l : List Nat} {x y : Value} (h : V ρ N x y) : V (renM ρ l) l.length (ren1 l x) y := by
  cases h with
  | unk => exact .unk
  | bool => exact .bool
  | int => exact .int
  | str => exact .str
  | ptrNil => exact .ptrNil
  | nilFunc => exact .nilFunc
  | nilIface => exact .nilIface
  | sliceNil => exact .sliceNil
  | ptrDead h1 h2 =>
    simp only [ren1]
    split
    · rename_i i hi
      obtain ⟨g1, g2⟩ := renM_pos (ρ := ρ) hi
      exact .ptrDead g1 (g2.trans h2)
    · exact .unk
  | sliceDead h1 h2 =>
    simp only [ren1]
    split
    · rename_i i hi
      obtain ⟨g1, g2⟩ := renM_pos (ρ := ρ) hi
      exact .sliceDead g1 (g2.trans h2)
    · exact .unk
  | ptr h1 h2 h3 =>
    simp only [ren1]
    split
    · rename_i i hi
      obtain ⟨g1, g2⟩ := renM_pos (ρ := ρ) hi
      exact .ptr g1 (g2.trans h2) h3
    · exact .unk
  | slice h1 h2 h3 h4 h5 h6 =>
    simp only [ren1]
    split
    · rename_i i hi
      obtain ⟨g1, g2⟩ := renM_pos (ρ := ρ) hi
      exact .slice g1 (g2.trans h2) h3 h4 h5 h6
    · exact .unk
  | agg h1 h2 => exact .unk
  | tuple h1 h2 => exact .unk
  | @func fn xs ys us vs h1 h2 h3 h4 =>
    obtain ⟨xs⟩ := xs
    obtain ⟨us⟩ := us
    match xs, us with
    | [], [] => 
      have e1 : ys = #[] := by simpa using h1.symm
      have e2 : vs = #[] := by simpa using h3.symm
      subst e1; subst e2
      exact .func rfl (fun i x y hx _ => by simp at hx) rfl (fun i x y hx _ => by simp at hx)
    | x :: xs, us => simp only [ren1]; exact .unk
    | [], u :: us => simp only [ren1]; exact .unk

theorem ren1s_V {N : Nat} {l : List Nat} {xs ys : Array Value} (h : ∀ (i : Nat) (x y : Value), xs[i]? = some x → ys[i]? = some y → V ρ N x y) : ∀ (i : Nat) (x y : Value), ((⟨xs.toList.map (ren1 l)⟩ : Array Value))[i]? = some x → ys[i]? = some y → V (renM ρ l) l.length x y := by
  intro i x y hx hy
  simp only [List.getElem?_toArray, List.getElem?_map, Option.map_eq_some_iff] at hx
  obtain ⟨u, hu, rfl⟩ := hx
  exact ren1_V (h i u y (by simpa using hu) hy)

theorem ren_V {N : Nat} {l : List Nat} {x y : Value} (h : V ρ N x y) : V (renM ρ l) l.length (ren l x) y := by
  cases h with
  | agg h1 h2 => exact .agg (by simpa using h1) (ren1s_V h2)
  | func h1 h2 h3 h4 => exact .func (by simpa using h1) (ren1s_V h2) (by simpa using h3) (ren1s_V h4)
  | unk => exact ren1_V (N := N) .unk
  | bool => exact ren1_V (N := N) .bool
  | int => exact ren1_V (N := N) .int
  | str => exact ren1_V (N := N) .str
  | ptrNil => exact ren1_V (N := N) .ptrNil
  | nilFunc => exact ren1_V (N := N) .nilFunc
  | nilIface => exact ren1_V (N := N) .nilIface
  | sliceNil => exact ren1_V (N := N) .sliceNil
  | ptrDead h1 h2 => exact ren1_V (N := N) (.ptrDead h1 h2)
  | sliceDead h1 h2 => exact ren1_V (N := N) (.sliceDead h1 h2)
  | ptr h1 h2 h3 => exact ren1_V (N := N) (.ptr h1 h2 h3)
  | slice h1 h2 h3 h4 h5 h6 => exact ren1_V (N := N) (.slice h1 h2 h3 h4 h5 h6)
  | tuple h1 h2 => exact ren1_V (N := N) (.tuple h1 h2)

theorem addNew_nodup : ∀ (xs : List Nat) {l : List Nat}, l.Nodup → (addNew l xs).Nodup
  | [], l, h => h
  | x :: xs, l, h => by
    simp only [addNew]
    split
    · exact addNew_nodup xs h
    · rename_i hc
      refine addNew_nodup xs ?_
      rw [List.nodup_append]
      refine ⟨h, by simp, fun a ha b hb => ?_⟩
      simp at hb
      subst hb
      rintro rfl
      have : l.contains a = true := by simpa using ha
      rw [this] at hc
      cases hc

theorem reach_nodup : ∀ (n : Nat) {l : List Nat}, l.Nodup → (reach mem n l).Nodup
  | 0, _, h => h
  | n + 1, _, h => reach_nodup n (addNew_nodup _ h)

def renMem (mem : List (Option Blk)) (l : List Nat) : List (Option Blk) := l.map fun id => (match mem[id]? with | some (some b) => some (renB l b) | _ => none)

theorem renMem_get {l : List Nat} {i : Nat} {b : Blk} (h : (renMem mem l)[i]? = some (some b)) : ∃ id c, l[i]? = some id ∧ mem[id]? = some (some c) ∧ b = renB l c := by
  simp only [renMem, List.getElem?_map, Option.map_eq_some_iff] at h
  obtain ⟨id, h1, h2⟩ := h
  split at h2
  · rename_i c hc
    cases h2
    exact ⟨id, c, h1, hc, rfl⟩
  · cases h2

theorem renB_own {l : List Nat} (b : Blk) : (renB l b).own = b.own := by cases b <;> rfl

theorem MemR.ren (h : MemR mem ρ B w) {l : List Nat} (hl : l.Nodup) : MemR (renMem mem l) (renM ρ l) B w := by
  have hown : ∀ (i : Nat) (L : Loc), Owned (renMem mem l) (renM ρ l) i L → ∃ id, l[i]? = some id ∧ Owned mem ρ id L := by
    intro i L ⟨g1, g2, b, g3, g4⟩
    obtain ⟨id, c, h1, h2, rfl⟩ := renMem_get g3
    simp only [renM, h1] at g1
    exact ⟨id, h1, g1, g2, c, h2, by rw [renB_own] at g4; exact g4⟩
  have hok : ∀ b, okB mem ρ w b → okB (renMem mem l) (renM ρ l) w b := by
    intro b ⟨h1, h2⟩
    refine ⟨h1, fun i L hL => ?_⟩
    obtain ⟨id, _, h3⟩ := hown i L hL
    exact h2 id L h3
  refine ⟨fun i b hi => ?_, fun i hi => ?_, fun i j L M hi hj hLM => ?_⟩
  · obtain ⟨id, c, h1, h2, rfl⟩ := renMem_get hi
    obtain ⟨L, hL, hr⟩ := h.blk id c h2
    refine ⟨L, by simp [renM, h1, hL], ?_⟩
    cases c with
    | box cells =>
      obtain ⟨g1, g2, g3, g4, c, T, g5, g6, g7⟩ := hr
      refine ⟨g1, g2, g3, g4, c, T, g5, by simpa using g6, fun j x y hx hy => ?_⟩
      simp only [List.getElem?_map, Option.map_eq_some_iff] at hx
      obtain ⟨u, hu, rfl⟩ := hx
      have := ren_V (l := l) (g7 j u y hu hy)
      simpa [renMem] using this
    | row ks own r =>
      obtain ⟨g1, g2, g3, g4⟩ := hr
      exact ⟨g1, g2, g3, fun hn => ⟨fun ho => hok _ ((g4 hn).1 ho), (g4 hn).2.mono (fun b hb => ⟨hok b hb, rfl⟩) rfl⟩⟩
  · simp only [renM]
    split
    · rename_i id hid
      refine h.dead id fun b hb => hi (renB l b) ?_
      simp [renMem, hid, hb]
    · rfl
  · obtain ⟨id, h1, h2⟩ := hown i L hi
    obtain ⟨jd, h3, h4⟩ := hown j M hj
    have := h.inj id jd L M h2 h4 hLM
    subst this
    have hi' : i < l.length := (List.getElem?_eq_some_iff.1 h1).1
    have hj' : j < l.length := (List.getElem?_eq_some_iff.1 h3).1
    rw [List.getElem?_eq_getElem hi'] at h1
    rw [List.getElem?_eq_getElem hj'] at h3
    have heq : l[i] = l[j] := (Option.some.inj h1).trans (Option.some.inj h3).symm
    have hp := List.pairwise_iff_getElem.1 hl
    rcases Nat.lt_trichotomy i j with hij | hij | hij
    · exact absurd heq (hp i j hi' hj' hij)
    · exact hij
    · exact absurd heq.symm (hp j i hj' hi' hij)

theorem TmpR.ren {N : Nat} {τ : List Value} {ts : Array Value} {l : List Nat} (h : TmpR ρ N τ ts) : TmpR (renM ρ l) l.length (τ.map (ren l)) ts :=
  ⟨by simpa using h.1, fun t x y hx hy => by
    simp only [List.getElem?_map, Option.map_eq_some_iff] at hx
    obtain ⟨u, hu, rfl⟩ := hx
    exact ren_V (h.2 t u y hu hy)⟩

theorem TmpsR.ren {N : Nat} {l : List Nat} : ∀ {τs : List (List Value)} {ts : List (Array Value)}, TmpsR ρ N τs ts → TmpsR (renM ρ l) l.length (τs.map (·.map (Ev.ren l))) ts
  | [], [], _ => trivial
  | _ :: _, _ :: _, h => ⟨h.1.ren, TmpsR.ren h.2⟩

theorem keepT_len {live : List Tmp} : ∀ (t : Nat) (τ : List Value), (keepT live t τ).length = τ.length
  | _, [] => rfl
  | t, v :: vs => by simp [keepT, keepT_len (t + 1) vs]

theorem keepT_get {live : List Tmp} : ∀ (t : Nat) (τ : List Value) (i : Nat) (x : Value), (keepT live t τ)[i]? = some x → x = unk ∨ τ[i]? = some x
  | _, [], i, x, h => by simp [keepT] at h
  | t, v :: vs, 0, x, h => by
    simp only [keepT, List.getElem?_cons_zero, Option.some.injEq] at h
    split at h
    · exact .inr (by simp [h])
    · exact .inl h.symm
  | t, v :: vs, i + 1, x, h => by
    simp only [keepT, List.getElem?_cons_succ] at h
    rcases keepT_get (t + 1) vs i x h with h1 | h1
    · exact .inl h1
    · exact .inr (by simpa using h1)

theorem norm_sound {w0 : World} {σ : St} {a : Act} {cs : List (Array Value)} (h : Rel w0 σ a cs w ρ) (live : List Tmp) : ∃ ρ', Rel w0 (norm live σ) a cs w ρ' := by
  have hk : TmpR ρ σ.mem.length (keepT live 0 σ.τ) a.tmps := ⟨by rw [keepT_len]; exact h.tmps.1, fun t x y hx hy => by
    rcases keepT_get 0 σ.τ t x hx with rfl | h1
    · exact .unk
    · exact h.tmps.2 t x y h1 hy⟩
  have hl : (reach σ.mem 2 (addNew [] ((keepT live 0 σ.τ).flatMap refs ++ σ.saved.flatMap (·.flatMap refs)))).Nodup := reach_nodup _ (addNew_nodup _ List.nodup_nil)
  refine ⟨renM ρ _, h.defers, ?_, ?_, h.below, h.mem.ren hl⟩
  · have := hk.ren (l := reach σ.mem 2 (addNew [] ((keepT live 0 σ.τ).flatMap refs ++ σ.saved.flatMap (·.flatMap refs))))
    simpa [norm] using this
  · have := h.saved.ren (l := reach σ.mem 2 (addNew [] ((keepT live 0 σ.τ).flatMap refs ++ σ.saved.flatMap (·.flatMap refs))))
    simpa [norm] using this
end
end Go.Ev

/- Package script and its reference: what lines with a word have. No conditions. -/
import Derived.Test.YtopdfmhlgkbaaaaS3
namespace Go.Proofs.Ytopdfmhlgkbaaaa
open Go.Ev
set_option linter.all false
def ksW : List CK := [.str, .int .i64, .int .i64, .int .i64, .int .i64, .bool, .int .u8]
/-- The table of the words, as the program makes it. -/
def Wt : Row := winOf (((((((((((((((((((((((((((((((((((((((((((((((((((((((((((((((((((((((Row.zeros 10).setS (10 - (9 + 1)) 0 { data := #[97, 103, 101, 110, 116] : ByteArray }).setI (10 - (9 + 1)) (0 + 1) 1).setI (10 - (9 + 1)) (0 + 1 + 1) 1).setI (10 - (9 + 1)) (0 + 1 + 1 + 1) 4).setI (10 - (9 + 1)) (0 + 1 + 1 + 1 + 1) 90).setB (10 - (9 + 1)) (0 + 1 + 1 + 1 + 1 + 1) true).setI (10 - (9 + 1)) (0 + 1 + 1 + 1 + 1 + 1 + 1) 0).setS (10 - (8 + 1)) 0 { data := #[112, 97, 114, 116, 121] : ByteArray }).setI (10 - (8 + 1)) (0 + 1) 1).setI (10 - (8 + 1)) (0 + 1 + 1) 1).setI (10 - (8 + 1)) (0 + 1 + 1 + 1) 0).setI (10 - (8 + 1)) (0 + 1 + 1 + 1 + 1) 0).setB (10 - (8 + 1)) (0 + 1 + 1 + 1 + 1 + 1) true).setI (10 - (8 + 1)) (0 + 1 + 1 + 1 + 1 + 1 + 1) 0).setS (10 - (7 + 1)) 0 { data := #[112, 97, 121] : ByteArray }).setI (10 - (7 + 1)) (0 + 1) 2).setI (10 - (7 + 1)) (0 + 1 + 1) 2).setI (10 - (7 + 1)) (0 + 1 + 1 + 1) 1).setI (10 - (7 + 1)) (0 + 1 + 1 + 1 + 1) 1).setB (10 - (7 + 1)) (0 + 1 + 1 + 1 + 1 + 1) false).setI (10 - (7 + 1)) (0 + 1 + 1 + 1 + 1 + 1 + 1) 2).setS (10 - (6 + 1)) 0 { data := #[115, 104, 97, 114, 101] : ByteArray }).setI (10 - (6 + 1)) (0 + 1) 2).setI (10 - (6 + 1)) (0 + 1 + 1) 10).setI (10 - (6 + 1)) (0 + 1 + 1 + 1) 1).setI (10 - (6 + 1)) (0 + 1 + 1 + 1 + 1) 1).setB (10 - (6 + 1)) (0 + 1 + 1 + 1 + 1 + 1) false).setI (10 - (6 + 1)) (0 + 1 + 1 + 1 + 1 + 1 + 1) 2).setS (10 - (5 + 1)) 0 { data := #[98, 97, 114, 103, 97, 105, 110] : ByteArray }).setI (10 - (5 + 1)) (0 + 1) 1).setI (10 - (5 + 1)) (0 + 1 + 1) 1).setI (10 - (5 + 1)) (0 + 1 + 1 + 1) 9).setI 4 4 9).setB 4 5 true).setI 4 6 0).setS 5 0 { data := { toList := [99, 97, 115, 101] : Array UInt8 } : ByteArray }).setI 5 1 1).setI 5 2 1).setI 5 3 6).setI 5 4 6).setB 5 5 true).setI 5 6 0).setS 6 0 { data := { toList := [101, 118, 101, 110, 116] : Array UInt8 } : ByteArray }).setI 6 1 1).setI 6 2 1).setI 6 3 3).setI 6 4 3).setB 6 5 false).setI 6 6 6).setS 7 0 { data := { toList := [109, 97, 116, 116, 101, 114] : Array UInt8 } : ByteArray }).setI 7 1 1).setI 7 2 1).setI 7 3 5).setI 7 4 5).setB 7 5 true).setI 7 6 0).setS 8 0 { data := { toList := [115, 116, 101, 112] : Array UInt8 } : ByteArray }).setI 8 1 1).setI 8 2 1).setI 8 3 3).setI 8 4 3).setB 8 5 false).setI 8 6 8).setS 9 0 { data := { toList := [100, 105, 118, 105, 100, 101] : Array UInt8 } : ByteArray }).setI 9 1 1).setI 9 2 6).setI 9 3 1).setI 9 4 1).setB 9 5 false).setI 9 6 1) 0 10
def pick {α : Type} (w : Int) : List (Int × α) → α → α
  | [], d => d
  | (k, a) :: l, d => bif w == k then a else pick w l d
def brs {α : Type} (w : Int) (f : α → List D) : List (Int × α) → α → Option (List D)
  | [], d => some (f d)
  | (k, a) :: l, d => br (w == k) (some (f a)) (brs w f l d)
theorem brs_pick {α : Type} (w : Int) (f : α → List D) : ∀ (l : List (Int × α)) (d : α), brs w f l d = some (f (pick w l d))
  | [], d => rfl
  | (k, a) :: l, d => by
    unfold brs pick
    rw [brs_pick w f l d]
    cases w == k <;> rfl
def wordL : List (Int × ByteArray) := [(1, ⟨⟨[97, 103, 101, 110, 116]⟩⟩), (2, ⟨⟨[112, 97, 114, 116, 121]⟩⟩), (3, ⟨⟨[112, 97, 121]⟩⟩), (4, ⟨⟨[115, 104, 97, 114, 101]⟩⟩), (5, ⟨⟨[98, 97, 114, 103, 97, 105, 110]⟩⟩), (6, ⟨⟨[99, 97, 115, 101]⟩⟩), (7, ⟨⟨[101, 118, 101, 110, 116]⟩⟩), (8, ⟨⟨[109, 97, 116, 116, 101, 114]⟩⟩), (9, ⟨⟨[115, 116, 101, 112]⟩⟩), (10, ⟨⟨[100, 105, 118, 105, 100, 101]⟩⟩)]
def wordS (w : Int) : ByteArray := pick w wordL ⟨⟨[]⟩⟩
structure Hs where
  a : Int
  b : Int
  c : Int
  d : Int
def hasL : List (Int × Hs) := [(1, ⟨1, 1, 4, 90⟩), (2, ⟨1, 1, 0, 0⟩), (3, ⟨2, 2, 1, 1⟩), (4, ⟨2, 10, 1, 1⟩), (5, ⟨1, 1, 9, 9⟩), (6, ⟨1, 1, 6, 6⟩), (8, ⟨1, 1, 5, 5⟩), (10, ⟨1, 6, 1, 1⟩)]
/-- How many names and numbers a line with a word has. -/
def hasS (w : Int) : Hs := pick w hasL ⟨1, 1, 3, 3⟩
/-- Whether lines with a word have a new name. -/
def newB (w : Int) : Bool := pick w [(1, true), (2, true), (5, true), (6, true)] (w == 8)
/-- With which word the names of a line must be known. -/
def neeI (w : Int) : Int := pick w [(7, 6), (9, 8), (10, 1)] 2
noncomputable def C0 : Cx := mkCx Try.prog fns [] []
theorem k27 (w : Int) : evF C0 6 27 [.v (u8 w)] = brs w (fun s => [.v (.string s)]) wordL ⟨⟨[]⟩⟩ := by kernel_rfl
theorem t27 (w : Int) : evF C0 6 27 [.v (u8 w)] = some [.v (.string (wordS w))] := (k27 w).trans (brs_pick w _ _ _)
theorem k26 (w : Int) : evF C0 6 26 [.v (u8 w)] = brs w (fun h => [.agg [.v (i64 h.a), .v (i64 h.b), .v (i64 h.c), .v (i64 h.d)]]) hasL ⟨1, 1, 3, 3⟩ := by kernel_rfl
theorem t26 (w : Int) : evF C0 6 26 [.v (u8 w)] = some [.agg [.v (i64 (hasS w).a), .v (i64 (hasS w).b), .v (i64 (hasS w).c), .v (i64 (hasS w).d)]] := (k26 w).trans (brs_pick w _ _ _)
theorem k22 (w : Int) : evF C0 6 22 [.v (u8 w)] = brs w (fun h => [.v (.bool h)]) [(1, true), (2, true), (5, true), (6, true)] (w == 8) := by kernel_rfl
theorem t22 (w : Int) : evF C0 6 22 [.v (u8 w)] = some [.v (.bool (newB w))] := (k22 w).trans (brs_pick w _ _ _)
theorem k23 (w : Int) : evF C0 6 23 [.v (u8 w)] = brs w (fun h => [.v (u8 h)]) [(7, 6), (9, 8), (10, 1)] 2 := by kernel_rfl
theorem t23 (w : Int) : evF C0 6 23 [.v (u8 w)] = some [.v (u8 (neeI w))] := (k23 w).trans (brs_pick w _ _ _)
theorem t20 : evF C0 6 20 [] = some [.slice ksW Wt] := by kernel_rfl
theorem C0_ok : CxOk C0 := mkCx_ok enter mixed (fun p h => by cases h) (fun l h => by cases h)
def Fword : List D → Option (Bool × List D)
  | [.v (.int .u8 w)] => some (true, [.v (.string (wordS w))])
  | _ => none
def Fhas : List D → Option (Bool × List D)
  | [.v (.int .u8 w)] => some (true, [.agg [.v (i64 (hasS w).a), .v (i64 (hasS w).b), .v (i64 (hasS w).c), .v (i64 (hasS w).d)]])
  | _ => none
def Fnew : List D → Option (Bool × List D)
  | [.v (.int .u8 w)] => some (true, [.v (.bool (newB w))])
  | _ => none
def Fnee : List D → Option (Bool × List D)
  | [.v (.int .u8 w)] => some (true, [.v (u8 (neeI w))])
  | _ => none
def Fwords : List D → Option (Bool × List D)
  | [] => some (true, [.slice ksW Wt])
  | _ => none
theorem den_word : Den Try.prog 27 Fword := evF_den C0_ok fun ds rs h => by
  unfold Fword at h
  split at h
  · rename_i w
    cases h
    exact t27 w
  · cases h
theorem den_has : Den Try.prog 26 Fhas := evF_den C0_ok fun ds rs h => by
  unfold Fhas at h
  split at h
  · rename_i w
    cases h
    exact t26 w
  · cases h
theorem den_new : Den Try.prog 22 Fnew := evF_den C0_ok fun ds rs h => by
  unfold Fnew at h
  split at h
  · rename_i w
    cases h
    exact t22 w
  · cases h
theorem den_needs : Den Try.prog 23 Fnee := evF_den C0_ok fun ds rs h => by
  unfold Fnee at h
  split at h
  · rename_i w
    cases h
    exact t23 w
  · cases h
theorem den_words : Den Try.prog 20 Fwords := evF_den C0_ok fun ds rs h => by
  unfold Fwords at h
  split at h
  · cases h
    exact t20
  · cases h
/-- What the table says. -/
theorem Wt_has {w : Int} (h1 : 1 ≤ w) (h2 : w ≤ 10) : (w - 1).toNat < Wt.n ∧ Wt.I (w - 1).toNat 1 = (hasS w).a ∧ Wt.I (w - 1).toNat 2 = (hasS w).b ∧ Wt.I (w - 1).toNat 3 = (hasS w).c ∧ Wt.I (w - 1).toNat 4 = (hasS w).d ∧ Wt.B (w - 1).toNat 5 = newB w ∧ (newB w = false → Wt.I (w - 1).toNat 6 = neeI w) ∧ Wt.S (w - 1).toNat 0 = wordS w := by
  have : w = 1 ∨ w = 2 ∨ w = 3 ∨ w = 4 ∨ w = 5 ∨ w = 6 ∨ w = 7 ∨ w = 8 ∨ w = 9 ∨ w = 10 := by omega
  rcases this with rfl | rfl | rfl | rfl | rfl | rfl | rfl | rfl | rfl | rfl <;> exact ⟨by decide, by kernel_rfl, by kernel_rfl, by kernel_rfl, by kernel_rfl, by kernel_rfl, fun h => (by first | exact absurd h (by decide) | kernel_rfl), by kernel_rfl⟩
theorem pick_none {α : Type} {w : Int} : ∀ {l : List (Int × α)} {d : α}, (∀ p ∈ l, w ≠ p.1) → pick w l d = d
  | [], d, _ => rfl
  | (k, a) :: l, d, h => by
    unfold pick
    rw [show (w == k) = false by simpa using h (k, a) (by simp)]
    exact pick_none fun p hp => h p (by simp [hp])
theorem wordS_nil (w : Int) : ((wordS w).toList == ByteArray.toList ⟨⟨[]⟩⟩) = !(decide (1 ≤ w ∧ w ≤ 10)) := by
  by_cases h : 1 ≤ w ∧ w ≤ 10
  · rw [decide_eq_true h]
    have : w = 1 ∨ w = 2 ∨ w = 3 ∨ w = 4 ∨ w = 5 ∨ w = 6 ∨ w = 7 ∨ w = 8 ∨ w = 9 ∨ w = 10 := by omega
    cases hb : ((wordS w).toList == ByteArray.toList ⟨⟨[]⟩⟩)
    · rfl
    · have hb := congrArg ByteArray.size ((bytesEq_iff _ _).1 hb)
      rcases this with rfl | rfl | rfl | rfl | rfl | rfl | rfl | rfl | rfl | rfl <;> cases hb
  · rw [decide_eq_false h]
    refine (bytesEq_iff _ _).2 (pick_none fun p hp => ?_)
    simp only [wordL, List.mem_cons, List.not_mem_nil, or_false] at hp
    rcases hp with rfl | rfl | rfl | rfl | rfl | rfl | rfl | rfl | rfl | rfl <;> dsimp only <;> omega
end Go.Proofs.Ytopdfmhlgkbaaaa

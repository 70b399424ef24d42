/- Package appeal and its reference: what they compute, in plain words. No conditions. -/
import Derived.Test.YtlejhkmkdajneaaEvZ
import Derived.Test.YtlejhkmkdajneaaRows
namespace Go.Proofs.Ytlejhkmkdajneaa
open Go.Ev

structure Ms where
  lv : Int
  ds : Int
  rm : Int
  cl : Int
  lev : Int
  st : Int
  day : Int
  due : Int
  rd : Int
  w0 : Bool
  w1 : Bool
  aw : Int
def zeroM : Ms := ⟨0, 0, 0, 0, 0, 0, 0, 0, 0, false, false, 0⟩
def msD (m : Ms) : D := .agg [.v (i64 m.lv), .v (i64 m.ds), .v (i64 m.rm), .v (i64 m.cl), .v (i64 m.lev), .v (u8 m.st), .v (i64 m.day), .v (i64 m.due), .v (i64 m.rd), .v (.bool m.w0), .v (.bool m.w1), .v (i64 m.aw)]
structure Stp where
  kind : Int
  day : Int
  party : Int
  cents : Int
def stD (x : Stp) : D := .agg [.v (u8 x.kind), .v (i64 x.day), .v (i64 x.party), .v (i64 x.cents)]

def goodM (m : Ms) : Prop := (1 ≤ m.lv ∧ m.lv ≤ 4) ∧ (1 ≤ m.ds ∧ m.ds ≤ 365) ∧ (0 ≤ m.rm ∧ m.rm ≤ 5) ∧ (1 ≤ m.cl ∧ m.cl ≤ 1000000000) ∧ (0 ≤ m.lev ∧ m.lev ≤ m.lv - 1) ∧ (0 ≤ m.day ∧ m.day ≤ 100000) ∧ (0 ≤ m.due ∧ m.due ≤ 200000) ∧
  (0 ≤ m.rd ∧ m.rd ≤ m.rm) ∧ (0 ≤ m.aw ∧ m.aw ≤ m.cl) ∧ (m.st = 1 ∨ m.st = 2 ∨ m.st = 3) ∧ (m.st = 1 → m.w0 = false ∧ m.w1 = false) ∧ (m.st = 2 → m.lev ≠ m.lv - 1 ∧ m.day ≤ m.due ∧ (m.w0 = false ∨ m.w1 = false))
instance {m : Ms} : Decidable (goodM m) := by unfold goodM; infer_instance
def chkE (m : Ms) : Int := if goodM m then 0 else 8
/-- Opening. -/
def newM (l ds r cl day : Int) : Ms := ⟨l, ds, r, cl, 0, 1, day, day, 0, false, false, 0⟩
def opE (l ds r cl day : Int) : Int := if goodM (newM l ds r cl day) then 0 else 2
def opC (l ds r cl day : Int) : Ms := if goodM (newM l ds r cl day) then newM l ds r cl day else zeroM
def bdN (m : Ms) : Int := if goodM m then m.lv + m.rm else 0
/-- A matter on a day. -/
def atE (m : Ms) (d : Int) : Int := if ¬ goodM m then 8 else if d < 0 ∨ 100000 < d then 2 else if d < m.day then 32 else 0
def stepC (m : Ms) (d : Int) : Ms := if m.st = 2 ∧ m.due < d then { m with day := d, st := 3 } else { m with day := d }
def atC (m : Ms) (d : Int) : Ms := if atE m d = 0 then stepC m d else zeroM
/-- A valid step. -/
def stpP (x : Stp) : Prop := (0 ≤ x.day ∧ x.day ≤ 100000) ∧ (((x.kind = 1 ∨ x.kind = 4) ∧ x.party = 0 ∧ (0 ≤ x.cents ∧ x.cents ≤ 1000000000)) ∨ ((x.kind = 2 ∨ x.kind = 6) ∧ (0 ≤ x.party ∧ x.party ≤ 1) ∧ x.cents = 0) ∨ ((x.kind = 3 ∨ x.kind = 5) ∧ x.party = 0 ∧ x.cents = 0))
instance {x : Stp} : Decidable (stpP x) := by unfold stpP; infer_instance
def stpB (x : Stp) : Bool := decide (stpP x)
/-- The kinds that are allowed in a matter. -/
def allP (k : Int) (m : Ms) : Prop := (k = 1 ∧ m.st = 1 ∧ m.lev = 0) ∨ ((k = 2 ∨ k = 6) ∧ m.st = 2) ∨ ((k = 3 ∨ k = 4) ∧ m.st = 1 ∧ m.lev > 0) ∨ (k = 5 ∧ m.st = 1 ∧ m.lev > 0 ∧ m.rd < m.rm)
instance {k : Int} {m : Ms} : Decidable (allP k m) := by unfold allP; infer_instance
def allB (k : Int) (m : Ms) : Bool := decide (allP k m)
/-- A step is applied. -/
def wvd (m : Ms) (x : Stp) : Bool := if x.party = 0 then m.w0 else m.w1
def apE (m : Ms) (x : Stp) : Int :=
  if ¬ goodM m ∨ ¬ stpP x then 8 else if atE m x.day ≠ 0 then atE m x.day else if ¬ allP x.kind (atC m x.day) then 36
  else if (x.kind = 2 ∨ x.kind = 6) ∧ wvd (atC m x.day) x = true then 14 else if x.cents > (atC m x.day).cl then 16 else 0
def dec (m : Ms) (d : Int) : Ms := if m.lev = m.lv - 1 then { m with st := 3 } else { m with st := 2, due := d + m.ds }
def doC (m : Ms) (x : Stp) : Ms :=
  if x.kind = 1 ∨ x.kind = 4 then dec { m with aw := x.cents } x.day
  else if x.kind = 2 then { m with lev := m.lev + 1, st := 1, w0 := false, w1 := false }
  else if x.kind = 3 then dec m x.day
  else if x.kind = 5 then { m with lev := m.lev - 1, rd := m.rd + 1 }
  else if x.party = 0 then (if m.w1 = true then { m with w0 := true, st := 3 } else { m with w0 := true })
  else (if m.w0 = true then { m with w1 := true, st := 3 } else { m with w1 := true })
def apC (m : Ms) (x : Stp) : Ms := if apE m x = 0 then doC (atC m x.day) x else zeroM
end Go.Proofs.Ytlejhkmkdajneaa

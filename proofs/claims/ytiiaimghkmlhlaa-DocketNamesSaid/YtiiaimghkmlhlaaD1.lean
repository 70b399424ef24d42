/- Package docket and its reference: what they compute, in plain words. No conditions. -/
import Derived.Test.YtiiaimghkmlhlaaEvY
import Derived.Test.YtiiaimghkmlhlaaRows
namespace Go.Proofs.Ytiiaimghkmlhlaa
open Go.Ev

structure Cs where
  an : Int
  ev : Int
  de : Int
  ex : Int
  cl : Int
  st : Int
  day : Int
  due : Int
  xd : Int
  e0 : Int
  e1 : Int
  aw : Int
def zeroC : Cs := ⟨0, 0, 0, 0, 0, 0, 0, 0, 0, 0, 0, 0⟩
def csD (c : Cs) : D := .agg [.v (i64 c.an), .v (i64 c.ev), .v (i64 c.de), .v (i64 c.ex), .v (i64 c.cl), .v (u8 c.st), .v (i64 c.day), .v (i64 c.due), .v (i64 c.xd), .v (i64 c.e0), .v (i64 c.e1), .v (i64 c.aw)]
structure Evt where
  kind : Int
  day : Int
  party : Int
  cents : Int
  days : Int
def evD (x : Evt) : D := .agg [.v (u8 x.kind), .v (i64 x.day), .v (i64 x.party), .v (i64 x.cents), .v (i64 x.days)]
def u8B (n : Int) : Bool := decide (0 ≤ n) && decide (n ≤ 255)

def termsP (a e d x : Int) : Prop := (1 ≤ a ∧ a ≤ 365) ∧ (1 ≤ e ∧ e ≤ 365) ∧ (1 ≤ d ∧ d ≤ 365) ∧ (0 ≤ x ∧ x ≤ 9)
instance {a e d x : Int} : Decidable (termsP a e d x) := by unfold termsP; infer_instance
def termsB (a e d x : Int) : Bool := decide (termsP a e d x)
def liveP (s : Int) : Prop := s = 1 ∨ s = 2 ∨ s = 3
instance {s : Int} : Decidable (liveP s) := by unfold liveP; infer_instance
def liveB (s : Int) : Bool := decide (liveP s)
def goodC (c : Cs) : Prop := termsP c.an c.ev c.de c.ex ∧ (1 ≤ c.cl ∧ c.cl ≤ 1000000000) ∧ (1 ≤ c.st ∧ c.st ≤ 8) ∧ (0 ≤ c.day ∧ c.day ≤ 100000) ∧ (0 ≤ c.due ∧ c.due ≤ 200000) ∧ (0 ≤ c.xd ∧ c.xd ≤ c.ex) ∧ (0 ≤ c.e0 ∧ c.e0 ≤ 9) ∧ (0 ≤ c.e1 ∧ c.e1 ≤ 9) ∧
  (c.st ≤ 3 → c.day ≤ c.due) ∧ (c.st = 4 ∨ c.st = 5 → 0 ≤ c.aw ∧ c.aw ≤ c.cl) ∧ (c.st = 6 → c.aw = c.cl) ∧ (c.st ≤ 3 ∨ c.st ≥ 7 → c.aw = 0) ∧ (c.st = 1 ∨ c.st = 6 → c.e0 = 0 ∧ c.e1 = 0)
instance {c : Cs} : Decidable (goodC c) := by unfold goodC; infer_instance
def chkE (c : Cs) : Int := if goodC c then 0 else 8
/-- Opening. -/
def opE (a e d x cl day : Int) : Int := if ¬ termsP a e d x then 8 else if cl < 1 ∨ 1000000000 < cl ∨ day < 0 ∨ 100000 < day then 2 else 0
def opC (a e d x cl day : Int) : Cs := if opE a e d x cl day = 0 then ⟨a, e, d, x, cl, 1, day, day + a, 0, 0, 0, 0⟩ else zeroC
/-- A case on a day. -/
def atE (c : Cs) (d : Int) : Int := if ¬ goodC c then 8 else if d < 0 ∨ 100000 < d then 2 else if d < c.day then 32 else 0
def stepC (c : Cs) (d : Int) : Cs :=
  if c.st = 1 ∧ c.due < d then { c with day := d, st := 6, aw := c.cl }
  else if c.st = 2 ∧ c.due < d then (if c.due + c.de < d then { c with day := d, st := 7, due := c.due + c.de } else { c with day := d, st := 3, due := c.due + c.de })
  else if c.st = 3 ∧ c.due < d then { c with day := d, st := 7 } else { c with day := d }
def atC (c : Cs) (d : Int) : Cs := if atE c d = 0 then stepC c d else zeroC
/-- A valid event. -/
def evtP (x : Evt) : Prop := (0 ≤ x.day ∧ x.day ≤ 100000) ∧ (
  ((x.kind = 1 ∨ x.kind = 3 ∨ x.kind = 6) ∧ x.party = 0 ∧ x.cents = 0 ∧ x.days = 0) ∨ (x.kind = 2 ∧ (0 ≤ x.party ∧ x.party ≤ 1) ∧ x.cents = 0 ∧ x.days = 0) ∨
  ((x.kind = 4 ∨ x.kind = 5) ∧ (0 ≤ x.cents ∧ x.cents ≤ 1000000000) ∧ x.party = 0 ∧ x.days = 0) ∨ (x.kind = 7 ∧ (1 ≤ x.days ∧ x.days ≤ 60) ∧ x.party = 0 ∧ x.cents = 0))
instance {x : Evt} : Decidable (evtP x) := by unfold evtP; infer_instance
def evtB (x : Evt) : Bool := decide (evtP x)
/-- The kinds that are allowed in a state. -/
def allP (k s : Int) : Prop := (k = 1 ∧ s = 1) ∨ ((k = 2 ∨ k = 3) ∧ s = 2) ∨ (k = 4 ∧ s = 3) ∨ (k = 5 ∧ liveP s) ∨ ((k = 6 ∨ k = 7) ∧ (s = 1 ∨ s = 2))
instance {k s : Int} : Decidable (allP k s) := by unfold allP; infer_instance
def allB (k s : Int) : Bool := decide (allP k s)
/-- An event is applied. -/
def evid (c : Cs) (x : Evt) : Int := if x.party = 0 then c.e0 else c.e1
def apE (c : Cs) (x : Evt) : Int :=
  if ¬ goodC c ∨ ¬ evtP x then 8 else if atE c x.day ≠ 0 then atE c x.day else if ¬ allP x.kind (atC c x.day).st then 36
  else if x.kind = 2 ∧ evid (atC c x.day) x = 9 ∨ x.kind = 7 ∧ (atC c x.day).xd = (atC c x.day).ex then 4
  else if x.cents > (atC c x.day).cl ∨ x.kind = 7 ∧ (atC c x.day).due + x.days > 200000 then 16 else 0
def doC (c : Cs) (x : Evt) : Cs :=
  if x.kind = 1 then { c with st := 2, due := x.day + c.ev }
  else if x.kind = 2 then (if x.party = 0 then { c with e0 := c.e0 + 1 } else { c with e1 := c.e1 + 1 })
  else if x.kind = 3 then { c with st := 3, due := x.day + c.de }
  else if x.kind = 4 then { c with st := 4, aw := x.cents }
  else if x.kind = 5 then { c with st := 5, aw := x.cents }
  else if x.kind = 6 then { c with st := 8 }
  else { c with xd := c.xd + 1, due := c.due + x.days }
def apC (c : Cs) (x : Evt) : Cs := if apE c x = 0 then doC (atC c x.day) x else zeroC
end Go.Proofs.Ytiiaimghkmlhlaa

/- Texts P7 B7 B8 P8 P9 in one. No conditions. -/
import Derived.Test.YtlfeobdfgmlmpaaGreatDoorPA
import Derived.Test.YtlfeobdfgmlmpaaGreatDoorPB
/- Package print: parts, Check: contracts. No conditions. -/
namespace Go.Proofs.YtlfeobdfgmlmpaaGreatDoor
open Go.Ev
set_option linter.all false
/-- A document's parts. -/
structure Dc where
  k : Int
  ca : Row
  pi : Row
  pc : Int
  wo : Row
  gv : Row
  aa : Row
  fv : Row
  rr : Int
  lr : Row
  lp : Row
  ld : Int
  ba : Row
  pa : Row
  cl : Int
def Dc.D (x : Dc) : D := docD x.k x.ca x.pi x.pc x.wo x.gv x.aa x.fv x.rr x.lr x.lp x.ld x.ba x.pa x.cl
def asDoc : D → Option Dc
  | .agg [.v (.int .u8 k), .slice [.int .i64, .slice [.int .i64], .slice [.int .i64]] ca, .slice [.slice [.int .i64, .int .i64, .int .i64, .int .i64]] pi, .v (.int .u8 pc), .slice [.slice [.int .i64, .int .i64]] wo, .slice [.slice [.int .i64]] gv, .slice [.int .i64] aa, .slice [.slice [.int .i64]] fv, .v (.int .i64 rr), .slice [.int .i64] lr, .slice [.int .i64] lp, .v (.int .i64 ld), .slice [.int .i64] ba, .slice [.int .i64, .int .i64, .int .i64] pa, .v (.int .u8 cl)] => some ⟨k, ca, pi, pc, wo, gv, aa, fv, rr, lr, lp, ld, ba, pa, cl⟩
  | _ => none
theorem asDoc_eq {d : D} {x : Dc} (h : asDoc d = some x) : d = x.D := by
  unfold asDoc at h
  split at h
  · cases h; rfl
  · cases h
def pb (o : Row) (k : Int) : Row := (winOf o 0 o.n).app (winOf ((Row.zeros 1).setI 0 0 k) 0 1)
def fin (o : Row) : Row := match o with | .nil => .nil | .mk n I B S R => winOf (.mk n I B S R) 0 n
def pT4 (ba pa o : Row) : Option (List D) := br (decide ((ba.n : Int) > 0)) (some [.slice [.int .u8] (fin (pb o 4))]) (br (decide ((pa.n : Int) > 0)) (some [.slice [.int .u8] (fin (pb o 4))]) (some [.slice [.int .u8] (fin o)]))
def pT3 (fv : Row) (rr : Int) (lr lp : Row) (ld : Int) (t : Row → Option (List D)) (o : Row) : Option (List D) := br (decide ((fv.n : Int) > 0)) (t (pb o 3)) (br (rr != 0) (t (pb o 3)) (br (decide ((lr.n : Int) > 0)) (t (pb o 3)) (br (decide ((lp.n : Int) > 0)) (t (pb o 3)) (br (ld != 0) (t (pb o 3)) (t o)))))
def pT2 (gv aa : Row) (t : Row → Option (List D)) (o : Row) : Option (List D) := br (decide ((gv.n : Int) > 0)) (t (pb o 2)) (br (decide ((aa.n : Int) > 0)) (t (pb o 2)) (t o))
def pT1 (ca pi : Row) (pc : Int) (wo : Row) (t : Row → Option (List D)) (o : Row) : Option (List D) := br (decide ((ca.n : Int) > 0)) (t (pb o 1)) (br (decide ((pi.n : Int) > 0)) (t (pb o 1)) (br (decide ((wo.n : Int) > 0)) (t (pb o 1)) (br (pc != 0) (t (pb o 1)) (t o))))
noncomputable def C0 : Cx := mkCx Tryz.prog fns [] []
theorem C0_ok : CxOk C0 := mkCx_ok enter mixed (fun p h => by cases h) (fun l h => by cases h)
theorem u29 (k : Int) (ca pi : Row) (pc : Int) (wo gv aa fv : Row) (rr : Int) (lr lp : Row) (ld : Int) (ba pa : Row) (cl : Int) : evF C0 6 29 [docD k ca pi pc wo gv aa fv rr lr lp ld ba pa cl] = pT1 ca pi pc wo (pT2 gv aa (pT3 fv rr lr lp ld (pT4 ba pa))) .nil := by kernel_rfl
/-- What a document has something of. -/
def fC (x : Dc) : Bool := decide ((x.ca.n : Int) > 0) || (decide ((x.pi.n : Int) > 0) || (decide ((x.wo.n : Int) > 0) || x.pc != 0))
def fG (x : Dc) : Bool := decide ((x.gv.n : Int) > 0) || decide ((x.aa.n : Int) > 0)
def fR (x : Dc) : Bool := decide ((x.fv.n : Int) > 0) || (x.rr != 0 || (decide ((x.lr.n : Int) > 0) || (decide ((x.lp.n : Int) > 0) || x.ld != 0)))
def fS (x : Dc) : Bool := decide ((x.ba.n : Int) > 0) || decide ((x.pa.n : Int) > 0)
def paO (c g r s : Bool) : Row :=
  let a := bif c then pb .nil 1 else .nil
  let b := bif g then pb a 2 else a
  let d := bif r then pb b 3 else b
  bif s then pb d 4 else d
def paR (x : Dc) : Row := fin (paO (fC x) (fG x) (fR x) (fS x))
def Fpar : List D → Option (Bool × List D)
  | [d] => match asDoc d with
    | some x => some (true, [.slice [.int .u8] (paR x)])
    | none => none
  | _ => none
theorem den_par : Den Tryz.prog 29 Fpar := evF_den C0_ok fun ds rs h => by
  unfold Fpar at h
  split at h
  · split at h
    · rename_i x hx
      simp only [Option.some.injEq, Prod.mk.injEq, true_and] at h
      subst h
      rw [asDoc_eq hx]
      refine (u29 x.k x.ca x.pi x.pc x.wo x.gv x.aa x.fv x.rr x.lr x.lp x.ld x.ba x.pa x.cl).trans ?_
      unfold pT1 pT2 pT3 pT4 paR fC fG fR fS paO
      simp only [← br_or]
      generalize (decide ((x.ca.n : Int) > 0) || (decide ((x.pi.n : Int) > 0) || (decide ((x.wo.n : Int) > 0) || x.pc != 0))) = f1
      generalize (decide ((x.gv.n : Int) > 0) || decide ((x.aa.n : Int) > 0)) = f2
      generalize (decide ((x.fv.n : Int) > 0) || (x.rr != 0 || (decide ((x.lr.n : Int) > 0) || (decide ((x.lp.n : Int) > 0) || x.ld != 0)))) = f3
      generalize (decide ((x.ba.n : Int) > 0) || decide ((x.pa.n : Int) > 0)) = f4
      cases f1 <;> cases f2 <;> cases f3 <;> cases f4 <;> rfl
    · cases h
  · cases h
/-- Whether a document has something that is not of its kind. -/
def otB (k : Int) (x : Dc) : Bool := anyF (fun j => (paR x).I j 0 != k) (paR x).n 0
theorem otB_eq (k : Int) (x : Dc) : otB k x = ((fC x && (1 : Int) != k) || ((fG x && (2 : Int) != k) || ((fR x && (3 : Int) != k) || ((fS x && (4 : Int) != k) || false)))) := by
  unfold otB paR
  cases fC x <;> cases fG x <;> cases fR x <;> cases fS x <;> rfl
def FSq (c : Row → Int → Bool) (b : Row → Int → Bool) : List D → Option (Bool × List D)
  | [.slice [.slice [.int .i64, .int .i64]] r, .v (.int .i64 n)] => some (c r n, [.v (.bool (b r n))])
  | _ => none
def FPc (c : Row → Row → Bool) (b : Row → Row → Int) : List D → Option (Bool × List D)
  | [.slice [.int .i64, .slice [.int .i64], .slice [.int .i64]] r, .agg [.slice [.slice [.int .i64, .int .i64, .int .i64, .int .i64]] p]] => some (c r p, [.v (i64 (b r p))])
  | _ => none
def FRc (c : Row → Int → Bool) (b : Row → Int → Int) : List D → Option (Bool × List D)
  | [.agg [.slice [.slice [.int .i64]] r, .v (.int .i64 n)]] => some (c r n, [.v (i64 (b r n))])
  | _ => none
def FRv (c : Row → Int → Row → Row → Int → Bool) (b : Row → Int → Row → Row → Int → Int) : List D → Option (Bool × List D)
  | [.agg [.slice [.slice [.int .i64]] r, .v (.int .i64 n)], .agg [.slice [.int .i64] p, .slice [.int .i64] q, .v (.int .i64 m)]] => some (c r n p q m, [.v (i64 (b r n p q m))])
  | _ => none
def FGu (c : Row → Bool) (o : Row → Row) (e : Row → Int) : List D → Option (Bool × List D)
  | [.slice [.int .i64] b] => some (c b, [.slice [.int .i64] (o b), .v (i64 (e b))])
  | _ => none
def FLc (e : Int → Row → Int) : List D → Option (Bool × List D)
  | [.v (.int .i64 n), .slice [.int .i64, .int .i64, .int .i64] b] => some (true, [.v (i64 (e n b))])
  | _ => none
structure Ck where
  sc : Row → Int → Bool
  sb : Row → Int → Bool
  pcc : Row → Row → Bool
  pcE : Row → Row → Int
  rcc : Row → Int → Bool
  rcE : Row → Int → Int
  rvc : Row → Int → Row → Row → Int → Bool
  rvE : Row → Int → Row → Row → Int → Int
  guc : Row → Bool
  guO : Row → Row
  guE : Row → Int
  lcE : Int → Row → Int
def p_l13 : PSt := { τ := pu 1 ++ [.v (.c (.pointer (some ⟨0, 0, some 0⟩)))] ++ pu 24 ++ [.v (.sl 1), .v (.int .i64), .v (.int .i64)] ++ pu 84, saved := [[]], mem := [.box [.v (.int .u8), .v (.sl 2), .v (.sl 3), .v (.int .u8), .v (.sl 4), .v (.sl 5), .v (.sl 6), .v (.sl 7), .v (.int .i64), .v (.sl 8), .v (.sl 9), .v (.int .i64), .v (.sl 10), .v (.sl 11), .v (.int .u8)], .row [.int .u8] true, .row [.int .i64, .slice [.int .i64], .slice [.int .i64]] false, .row [.slice [.int .i64, .int .i64, .int .i64, .int .i64]] false, .row [.slice [.int .i64, .int .i64]] false, .row [.slice [.int .i64]] false, .row [.int .i64] false, .row [.slice [.int .i64]] false, .row [.int .i64] false, .row [.int .i64] false, .row [.int .i64] false, .row [.int .i64, .int .i64, .int .i64] false] }
structure A_l13 where
  n : Nat
  len : Int
  j : Int
  k : Int
  can : Nat
  pin : Nat
  pc : Int
  won : Nat
  gvn : Nat
  aan : Nat
  fvn : Nat
  rr : Int
  lrn : Nat
  lpn : Nat
  ld : Int
  ban : Nat
  pan : Nat
  cl : Int
  p : Row
  ca : Row
  pi : Row
  wo : Row
  gv : Row
  aa : Row
  fv : Row
  lr : Row
  lp : Row
  ba : Row
  pa : Row
def d_l13 (its : List It) : Option A_l13 := match its with | [.n n, .i len, .i j, .i k, .n can, .n pin, .i pc, .n won, .n gvn, .n aan, .n fvn, .i rr, .n lrn, .n lpn, .i ld, .n ban, .n pan, .i cl, .r p, .r ca, .r pi, .r wo, .r gv, .r aa, .r fv, .r lr, .r lp, .r ba, .r pa] => some ⟨n, len, j, k, can, pin, pc, won, gvn, aan, fvn, rr, lrn, lpn, ld, ban, pan, cl, p, ca, pi, wo, gv, aa, fv, lr, lp, ba, pa⟩ | _ => none
def c_l13 (x : A_l13) : Bool := decide (x.j = 0 ∧ x.len = x.n ∧ x.n ≤ 1000)
theorem c_l13_iff {x : A_l13} : c_l13 x = true ↔ x.j = 0 ∧ x.len = x.n ∧ x.n ≤ 1000 := by unfold c_l13; rw [decide_eq_true_eq]
def l13 : ScanL A_l13 where
  f := 13
  id := 4
  lv := [1, 26, 27, 28]
  lx := [1, 2]
  p := p_l13
  dat := d_l13
  S := fun x j => [.n x.n, .i (x.n : Int), .i (j : Int), .i x.k, .n x.can, .n x.pin, .i x.pc, .n x.won, .n x.gvn, .n x.aan, .n x.fvn, .i x.rr, .n x.lrn, .n x.lpn, .i x.ld, .n x.ban, .n x.pan, .i x.cl, .r x.p, .r x.ca, .r x.pi, .r x.wo, .r x.gv, .r x.aa, .r x.fv, .r x.lr, .r x.lp, .r x.ba, .r x.pa]
  len := fun x => x.n
  cnd := c_l13
  bad := fun x j => x.p.I j 0 != x.k
  Kb := fun x j K => K .ret ⟨us 1 ++ [.pointer (some ⟨0, 0, some 0⟩), i64 (8)] ++ us 110, [[]], [some (.box [.int .u8 (x.k), .slice (some ⟨1, 0, some 0⟩) (x.can) (0), .slice (some ⟨2, 0, some 0⟩) (x.pin) (0), .int .u8 (x.pc), .slice (some ⟨3, 0, some 0⟩) (x.won) (0), .slice (some ⟨4, 0, some 0⟩) (x.gvn) (0), .slice (some ⟨5, 0, some 0⟩) (x.aan) (0), .slice (some ⟨6, 0, some 0⟩) (x.fvn) (0), i64 (x.rr), .slice (some ⟨7, 0, some 0⟩) (x.lrn) (0), .slice (some ⟨8, 0, some 0⟩) (x.lpn) (0), i64 (x.ld), .slice (some ⟨9, 0, some 0⟩) (x.ban) (0), .slice (some ⟨10, 0, some 0⟩) (x.pan) (0), .int .u8 (x.cl)]), some (.row [.int .i64, .slice [.int .i64], .slice [.int .i64]] false (x.ca)), some (.row [.slice [.int .i64, .int .i64, .int .i64, .int .i64]] false (x.pi)), some (.row [.slice [.int .i64, .int .i64]] false (x.wo)), some (.row [.slice [.int .i64]] false (x.gv)), some (.row [.int .i64] false (x.aa)), some (.row [.slice [.int .i64]] false (x.fv)), some (.row [.int .i64] false (x.lr)), some (.row [.int .i64] false (x.lp)), some (.row [.int .i64] false (x.ba)), some (.row [.int .i64, .int .i64, .int .i64] false (x.pa))]⟩
  Ke := fun x K => K (.exit 0) ⟨us 1 ++ [.pointer (some ⟨0, 0, some 0⟩)] ++ us 111, [[]], [some (.box [.int .u8 (x.k), .slice (some ⟨1, 0, some 0⟩) (x.can) (0), .slice (some ⟨2, 0, some 0⟩) (x.pin) (0), .int .u8 (x.pc), .slice (some ⟨3, 0, some 0⟩) (x.won) (0), .slice (some ⟨4, 0, some 0⟩) (x.gvn) (0), .slice (some ⟨5, 0, some 0⟩) (x.aan) (0), .slice (some ⟨6, 0, some 0⟩) (x.fvn) (0), i64 (x.rr), .slice (some ⟨7, 0, some 0⟩) (x.lrn) (0), .slice (some ⟨8, 0, some 0⟩) (x.lpn) (0), i64 (x.ld), .slice (some ⟨9, 0, some 0⟩) (x.ban) (0), .slice (some ⟨10, 0, some 0⟩) (x.pan) (0), .int .u8 (x.cl)]), some (.row [.int .i64, .slice [.int .i64], .slice [.int .i64]] false (x.ca)), some (.row [.slice [.int .i64, .int .i64, .int .i64, .int .i64]] false (x.pi)), some (.row [.slice [.int .i64, .int .i64]] false (x.wo)), some (.row [.slice [.int .i64]] false (x.gv)), some (.row [.int .i64] false (x.aa)), some (.row [.slice [.int .i64]] false (x.fv)), some (.row [.int .i64] false (x.lr)), some (.row [.int .i64] false (x.lp)), some (.row [.int .i64] false (x.ba)), some (.row [.int .i64, .int .i64, .int .i64] false (x.pa))]⟩
noncomputable def C13 (sc sb : Row → Int → Bool) (pcc : Row → Row → Bool) (pcE : Row → Row → Int) (rcc : Row → Int → Bool) (rcE : Row → Int → Int) (rvc : Row → Int → Row → Row → Int → Bool) (rvE : Row → Int → Row → Row → Int → Int) (guc : Row → Bool) (guO : Row → Row) (guE : Row → Int) (lcE : Int → Row → Int) : Cx := mkCx Tryz.prog fns [(31, FSq sc sb), (30, FPc pcc pcE), (33, FRc rcc rcE), (34, FRv rvc rvE), (35, FGu guc guO guE), (36, FLc lcE), (7, Fchk), (8, Fval), (32, Ffst), (29, Fpar)] [l13.C]
theorem r_l13 (sc sb : Row → Int → Bool) (pcc : Row → Row → Bool) (pcE : Row → Row → Int) (rcc : Row → Int → Bool) (rcE : Row → Int → Int) (rvc : Row → Int → Row → Row → Int → Bool) (rvE : Row → Int → Row → Row → Int → Int) (guc : Row → Bool) (guO : Row → Row) (guE : Row → Int) (lcE : Int → Row → Int) (R : St → Option (List D)) (K : X → St → Option (List D)) (q : Nat) (n : Nat) (len : Int) (j : Int) (k : Int) (can : Nat) (pin : Nat) (pc : Int) (won : Nat) (gvn : Nat) (aan : Nat) (fvn : Nat) (rr : Int) (lrn : Nat) (lpn : Nat) (ld : Int) (ban : Nat) (pan : Nat) (cl : Int) (p : Row) (ca : Row) (pi : Row) (wo : Row) (gv : Row) (aa : Row) (fv : Row) (lr : Row) (lp : Row) (ba : Row) (pa : Row) : bodyOf (C13 sc sb pcc pcE rcc rcE rvc rvE guc guO guE lcE) 13 4 q (Go.Ev.bst p_l13 [.n n, .i len, .i j, .i k, .n can, .n pin, .i pc, .n won, .n gvn, .n aan, .n fvn, .i rr, .n lrn, .n lpn, .i ld, .n ban, .n pan, .i cl, .r p, .r ca, .r pi, .r wo, .r gv, .r aa, .r fv, .r lr, .r lp, .r ba, .r pa]) (rnd [1, 26, 27, 28] (some [1, 2]) R K) =
    br (decide (j < len)) (br (decide (0 ≤ j) && decide (j < (↑n : Int))) (br (p.I (0 + j.toNat) 0 != k) (K .ret ⟨us 1 ++ [.pointer (some ⟨0, 0, some 0⟩), i64 (8)] ++ us 110, [[]], [some (.box [.int .u8 (k), .slice (some ⟨1, 0, some 0⟩) (can) (0), .slice (some ⟨2, 0, some 0⟩) (pin) (0), .int .u8 (pc), .slice (some ⟨3, 0, some 0⟩) (won) (0), .slice (some ⟨4, 0, some 0⟩) (gvn) (0), .slice (some ⟨5, 0, some 0⟩) (aan) (0), .slice (some ⟨6, 0, some 0⟩) (fvn) (0), i64 (rr), .slice (some ⟨7, 0, some 0⟩) (lrn) (0), .slice (some ⟨8, 0, some 0⟩) (lpn) (0), i64 (ld), .slice (some ⟨9, 0, some 0⟩) (ban) (0), .slice (some ⟨10, 0, some 0⟩) (pan) (0), .int .u8 (cl)]), some (.row [.int .i64, .slice [.int .i64], .slice [.int .i64]] false (ca)), some (.row [.slice [.int .i64, .int .i64, .int .i64, .int .i64]] false (pi)), some (.row [.slice [.int .i64, .int .i64]] false (wo)), some (.row [.slice [.int .i64]] false (gv)), some (.row [.int .i64] false (aa)), some (.row [.slice [.int .i64]] false (fv)), some (.row [.int .i64] false (lr)), some (.row [.int .i64] false (lp)), some (.row [.int .i64] false (ba)), some (.row [.int .i64, .int .i64, .int .i64] false (pa))]⟩) (R ⟨us 1 ++ [.pointer (some ⟨0, 0, some 0⟩)] ++ us 24 ++ [.slice (some ⟨1, 0, some 0⟩) (n) (0), i64 (len), i64 (IntKind.i64.wrap (j + 1))] ++ us 84, [[]], [some (.box [.int .u8 (k), .slice (some ⟨2, 0, some 0⟩) (can) (0), .slice (some ⟨3, 0, some 0⟩) (pin) (0), .int .u8 (pc), .slice (some ⟨4, 0, some 0⟩) (won) (0), .slice (some ⟨5, 0, some 0⟩) (gvn) (0), .slice (some ⟨6, 0, some 0⟩) (aan) (0), .slice (some ⟨7, 0, some 0⟩) (fvn) (0), i64 (rr), .slice (some ⟨8, 0, some 0⟩) (lrn) (0), .slice (some ⟨9, 0, some 0⟩) (lpn) (0), i64 (ld), .slice (some ⟨10, 0, some 0⟩) (ban) (0), .slice (some ⟨11, 0, some 0⟩) (pan) (0), .int .u8 (cl)]), some (.row [.int .u8] true (p)), some (.row [.int .i64, .slice [.int .i64], .slice [.int .i64]] false (ca)), some (.row [.slice [.int .i64, .int .i64, .int .i64, .int .i64]] false (pi)), some (.row [.slice [.int .i64, .int .i64]] false (wo)), some (.row [.slice [.int .i64]] false (gv)), some (.row [.int .i64] false (aa)), some (.row [.slice [.int .i64]] false (fv)), some (.row [.int .i64] false (lr)), some (.row [.int .i64] false (lp)), some (.row [.int .i64] false (ba)), some (.row [.int .i64, .int .i64, .int .i64] false (pa))]⟩)) (none)) (K (.exit 0) ⟨us 1 ++ [.pointer (some ⟨0, 0, some 0⟩)] ++ us 111, [[]], [some (.box [.int .u8 (k), .slice (some ⟨1, 0, some 0⟩) (can) (0), .slice (some ⟨2, 0, some 0⟩) (pin) (0), .int .u8 (pc), .slice (some ⟨3, 0, some 0⟩) (won) (0), .slice (some ⟨4, 0, some 0⟩) (gvn) (0), .slice (some ⟨5, 0, some 0⟩) (aan) (0), .slice (some ⟨6, 0, some 0⟩) (fvn) (0), i64 (rr), .slice (some ⟨7, 0, some 0⟩) (lrn) (0), .slice (some ⟨8, 0, some 0⟩) (lpn) (0), i64 (ld), .slice (some ⟨9, 0, some 0⟩) (ban) (0), .slice (some ⟨10, 0, some 0⟩) (pan) (0), .int .u8 (cl)]), some (.row [.int .i64, .slice [.int .i64], .slice [.int .i64]] false (ca)), some (.row [.slice [.int .i64, .int .i64, .int .i64, .int .i64]] false (pi)), some (.row [.slice [.int .i64, .int .i64]] false (wo)), some (.row [.slice [.int .i64]] false (gv)), some (.row [.int .i64] false (aa)), some (.row [.slice [.int .i64]] false (fv)), some (.row [.int .i64] false (lr)), some (.row [.int .i64] false (lp)), some (.row [.int .i64] false (ba)), some (.row [.int .i64, .int .i64, .int .i64] false (pa))]⟩) := by kernel_rfl
theorem u13 (sc sb : Row → Int → Bool) (pcc : Row → Row → Bool) (pcE : Row → Row → Int) (rcc : Row → Int → Bool) (rcE : Row → Int → Int) (rvc : Row → Int → Row → Row → Int → Bool) (rvE : Row → Int → Row → Row → Int → Int) (guc : Row → Bool) (guO : Row → Row) (guE : Row → Int) (lcE : Int → Row → Int) (k : Int) (ca pi : Row) (pc : Int) (wo gv aa fv : Row) (rr : Int) (lr lp : Row) (ld : Int) (ba pa : Row) (cl : Int) : evF (C13 sc sb pcc pcE rcc rcE rvc rvE guc guO guE lcE) 6 13 [docD k ca pi pc wo gv aa fv rr lr lp ld ba pa cl] =
    br (decide (k < 1)) (some [.v (i64 (8))]) (br (decide (k > 4)) (some [.v (i64 (8))]) (br (k == 1) (br (cl != 0) (some [.v (i64 (8))]) (br (c_l13 { n := (paR { k := k, ca := winOf ca 0 ca.n, pi := winOf pi 0 pi.n, pc := pc, wo := winOf wo 0 wo.n, gv := winOf gv 0 gv.n, aa := winOf aa 0 aa.n, fv := winOf fv 0 fv.n, rr := rr, lr := winOf lr 0 lr.n, lp := winOf lp 0 lp.n, ld := ld, ba := winOf ba 0 ba.n, pa := winOf pa 0 pa.n, cl := cl : Dc }).n, len := (↑(paR { k := k, ca := winOf ca 0 ca.n, pi := winOf pi 0 pi.n, pc := pc, wo := winOf wo 0 wo.n, gv := winOf gv 0 gv.n, aa := winOf aa 0 aa.n, fv := winOf fv 0 fv.n, rr := rr, lr := winOf lr 0 lr.n, lp := winOf lp 0 lp.n, ld := ld, ba := winOf ba 0 ba.n, pa := winOf pa 0 pa.n, cl := cl : Dc }).n : Int), j := 0, k := k, can := ca.n, pin := pi.n, pc := pc, won := wo.n, gvn := gv.n, aan := aa.n, fvn := fv.n, rr := rr, lrn := lr.n, lpn := lp.n, ld := ld, ban := ba.n, pan := pa.n, cl := cl, p := paR { k := k, ca := winOf ca 0 ca.n, pi := winOf pi 0 pi.n, pc := pc, wo := winOf wo 0 wo.n, gv := winOf gv 0 gv.n, aa := winOf aa 0 aa.n, fv := winOf fv 0 fv.n, rr := rr, lr := winOf lr 0 lr.n, lp := winOf lp 0 lp.n, ld := ld, ba := winOf ba 0 ba.n, pa := winOf pa 0 pa.n, cl := cl : Dc }, ca := ca, pi := pi, wo := wo, gv := gv, aa := aa, fv := fv, lr := lr, lp := lp, ba := ba, pa := pa : A_l13 }) (br (anyF (fun j => { n := (paR { k := k, ca := winOf ca 0 ca.n, pi := winOf pi 0 pi.n, pc := pc, wo := winOf wo 0 wo.n, gv := winOf gv 0 gv.n, aa := winOf aa 0 aa.n, fv := winOf fv 0 fv.n, rr := rr, lr := winOf lr 0 lr.n, lp := winOf lp 0 lp.n, ld := ld, ba := winOf ba 0 ba.n, pa := winOf pa 0 pa.n, cl := cl : Dc }).n, len := (↑(paR { k := k, ca := winOf ca 0 ca.n, pi := winOf pi 0 pi.n, pc := pc, wo := winOf wo 0 wo.n, gv := winOf gv 0 gv.n, aa := winOf aa 0 aa.n, fv := winOf fv 0 fv.n, rr := rr, lr := winOf lr 0 lr.n, lp := winOf lp 0 lp.n, ld := ld, ba := winOf ba 0 ba.n, pa := winOf pa 0 pa.n, cl := cl : Dc }).n : Int), j := 0, k := k, can := ca.n, pin := pi.n, pc := pc, won := wo.n, gvn := gv.n, aan := aa.n, fvn := fv.n, rr := rr, lrn := lr.n, lpn := lp.n, ld := ld, ban := ba.n, pan := pa.n, cl := cl, p := paR { k := k, ca := winOf ca 0 ca.n, pi := winOf pi 0 pi.n, pc := pc, wo := winOf wo 0 wo.n, gv := winOf gv 0 gv.n, aa := winOf aa 0 aa.n, fv := winOf fv 0 fv.n, rr := rr, lr := winOf lr 0 lr.n, lp := winOf lp 0 lp.n, ld := ld, ba := winOf ba 0 ba.n, pa := winOf pa 0 pa.n, cl := cl : Dc }, ca := ca, pi := pi, wo := wo, gv := gv, aa := aa, fv := fv, lr := lr, lp := lp, ba := ba, pa := pa : A_l13 }.p.I j 0 != { n := (paR { k := k, ca := winOf ca 0 ca.n, pi := winOf pi 0 pi.n, pc := pc, wo := winOf wo 0 wo.n, gv := winOf gv 0 gv.n, aa := winOf aa 0 aa.n, fv := winOf fv 0 fv.n, rr := rr, lr := winOf lr 0 lr.n, lp := winOf lp 0 lp.n, ld := ld, ba := winOf ba 0 ba.n, pa := winOf pa 0 pa.n, cl := cl : Dc }).n, len := (↑(paR { k := k, ca := winOf ca 0 ca.n, pi := winOf pi 0 pi.n, pc := pc, wo := winOf wo 0 wo.n, gv := winOf gv 0 gv.n, aa := winOf aa 0 aa.n, fv := winOf fv 0 fv.n, rr := rr, lr := winOf lr 0 lr.n, lp := winOf lp 0 lp.n, ld := ld, ba := winOf ba 0 ba.n, pa := winOf pa 0 pa.n, cl := cl : Dc }).n : Int), j := 0, k := k, can := ca.n, pin := pi.n, pc := pc, won := wo.n, gvn := gv.n, aan := aa.n, fvn := fv.n, rr := rr, lrn := lr.n, lpn := lp.n, ld := ld, ban := ba.n, pan := pa.n, cl := cl, p := paR { k := k, ca := winOf ca 0 ca.n, pi := winOf pi 0 pi.n, pc := pc, wo := winOf wo 0 wo.n, gv := winOf gv 0 gv.n, aa := winOf aa 0 aa.n, fv := winOf fv 0 fv.n, rr := rr, lr := winOf lr 0 lr.n, lp := winOf lp 0 lp.n, ld := ld, ba := winOf ba 0 ba.n, pa := winOf pa 0 pa.n, cl := cl : Dc }, ca := ca, pi := pi, wo := wo, gv := gv, aa := aa, fv := fv, lr := lr, lp := lp, ba := ba, pa := pa : A_l13 }.k) (paR { k := k, ca := winOf ca 0 ca.n, pi := winOf pi 0 pi.n, pc := pc, wo := winOf wo 0 wo.n, gv := winOf gv 0 gv.n, aa := winOf aa 0 aa.n, fv := winOf fv 0 fv.n, rr := rr, lr := winOf lr 0 lr.n, lp := winOf lp 0 lp.n, ld := ld, ba := winOf ba 0 ba.n, pa := winOf pa 0 pa.n, cl := cl : Dc }).n 0) (some [.v (i64 (8))]) (br (k == 1) (br (pcc (winOf ca 0 ca.n) (winOf pi 0 pi.n)) (br (decide ({ n := (paR { k := k, ca := winOf ca 0 ca.n, pi := winOf pi 0 pi.n, pc := pc, wo := winOf wo 0 wo.n, gv := winOf gv 0 gv.n, aa := winOf aa 0 aa.n, fv := winOf fv 0 fv.n, rr := rr, lr := winOf lr 0 lr.n, lp := winOf lp 0 lp.n, ld := ld, ba := winOf ba 0 ba.n, pa := winOf pa 0 pa.n, cl := cl : Dc }).n, len := (↑(paR { k := k, ca := winOf ca 0 ca.n, pi := winOf pi 0 pi.n, pc := pc, wo := winOf wo 0 wo.n, gv := winOf gv 0 gv.n, aa := winOf aa 0 aa.n, fv := winOf fv 0 fv.n, rr := rr, lr := winOf lr 0 lr.n, lp := winOf lp 0 lp.n, ld := ld, ba := winOf ba 0 ba.n, pa := winOf pa 0 pa.n, cl := cl : Dc }).n : Int), j := 0, k := k, can := ca.n, pin := pi.n, pc := pc, won := wo.n, gvn := gv.n, aan := aa.n, fvn := fv.n, rr := rr, lrn := lr.n, lpn := lp.n, ld := ld, ban := ba.n, pan := pa.n, cl := cl, p := paR { k := k, ca := winOf ca 0 ca.n, pi := winOf pi 0 pi.n, pc := pc, wo := winOf wo 0 wo.n, gv := winOf gv 0 gv.n, aa := winOf aa 0 aa.n, fv := winOf fv 0 fv.n, rr := rr, lr := winOf lr 0 lr.n, lp := winOf lp 0 lp.n, ld := ld, ba := winOf ba 0 ba.n, pa := winOf pa 0 pa.n, cl := cl : Dc }, ca := ca, pi := pi, wo := wo, gv := gv, aa := aa, fv := fv, lr := lr, lp := lp, ba := ba, pa := pa : A_l13 }.pc ≤ 31)) (br (sc (winOf wo 0 wo.n) (↑ca.n : Int)) (br (pcE (winOf ca 0 ca.n) (winOf pi 0 pi.n) == 0) (br (!sb (winOf wo 0 wo.n) (↑ca.n : Int)) (some [.v (i64 (8))]) (some [.v (i64 (pcE (winOf ca 0 ca.n) (winOf pi 0 pi.n)))])) (some [.v (i64 (pcE (winOf ca 0 ca.n) (winOf pi 0 pi.n)))])) (none)) (br (pcE (winOf ca 0 ca.n) (winOf pi 0 pi.n) == 0) (some [.v (i64 (8))]) (some [.v (i64 (pcE (winOf ca 0 ca.n) (winOf pi 0 pi.n)))]))) (none)) (br (k == 2) (br (decide ((winOf { n := (paR { k := k, ca := winOf ca 0 ca.n, pi := winOf pi 0 pi.n, pc := pc, wo := winOf wo 0 wo.n, gv := winOf gv 0 gv.n, aa := winOf aa 0 aa.n, fv := winOf fv 0 fv.n, rr := rr, lr := winOf lr 0 lr.n, lp := winOf lp 0 lp.n, ld := ld, ba := winOf ba 0 ba.n, pa := winOf pa 0 pa.n, cl := cl : Dc }).n, len := (↑(paR { k := k, ca := winOf ca 0 ca.n, pi := winOf pi 0 pi.n, pc := pc, wo := winOf wo 0 wo.n, gv := winOf gv 0 gv.n, aa := winOf aa 0 aa.n, fv := winOf fv 0 fv.n, rr := rr, lr := winOf lr 0 lr.n, lp := winOf lp 0 lp.n, ld := ld, ba := winOf ba 0 ba.n, pa := winOf pa 0 pa.n, cl := cl : Dc }).n : Int), j := 0, k := k, can := ca.n, pin := pi.n, pc := pc, won := wo.n, gvn := gv.n, aan := aa.n, fvn := fv.n, rr := rr, lrn := lr.n, lpn := lp.n, ld := ld, ban := ba.n, pan := pa.n, cl := cl, p := paR { k := k, ca := winOf ca 0 ca.n, pi := winOf pi 0 pi.n, pc := pc, wo := winOf wo 0 wo.n, gv := winOf gv 0 gv.n, aa := winOf aa 0 aa.n, fv := winOf fv 0 fv.n, rr := rr, lr := winOf lr 0 lr.n, lp := winOf lp 0 lp.n, ld := ld, ba := winOf ba 0 ba.n, pa := winOf pa 0 pa.n, cl := cl : Dc }, ca := ca, pi := pi, wo := wo, gv := gv, aa := aa, fv := fv, lr := lr, lp := lp, ba := ba, pa := pa : A_l13 }.gv 0 { n := (paR { k := k, ca := winOf ca 0 ca.n, pi := winOf pi 0 pi.n, pc := pc, wo := winOf wo 0 wo.n, gv := winOf gv 0 gv.n, aa := winOf aa 0 aa.n, fv := winOf fv 0 fv.n, rr := rr, lr := winOf lr 0 lr.n, lp := winOf lp 0 lp.n, ld := ld, ba := winOf ba 0 ba.n, pa := winOf pa 0 pa.n, cl := cl : Dc }).n, len := (↑(paR { k := k, ca := winOf ca 0 ca.n, pi := winOf pi 0 pi.n, pc := pc, wo := winOf wo 0 wo.n, gv := winOf gv 0 gv.n, aa := winOf aa 0 aa.n, fv := winOf fv 0 fv.n, rr := rr, lr := winOf lr 0 lr.n, lp := winOf lp 0 lp.n, ld := ld, ba := winOf ba 0 ba.n, pa := winOf pa 0 pa.n, cl := cl : Dc }).n : Int), j := 0, k := k, can := ca.n, pin := pi.n, pc := pc, won := wo.n, gvn := gv.n, aan := aa.n, fvn := fv.n, rr := rr, lrn := lr.n, lpn := lp.n, ld := ld, ban := ba.n, pan := pa.n, cl := cl, p := paR { k := k, ca := winOf ca 0 ca.n, pi := winOf pi 0 pi.n, pc := pc, wo := winOf wo 0 wo.n, gv := winOf gv 0 gv.n, aa := winOf aa 0 aa.n, fv := winOf fv 0 fv.n, rr := rr, lr := winOf lr 0 lr.n, lp := winOf lp 0 lp.n, ld := ld, ba := winOf ba 0 ba.n, pa := winOf pa 0 pa.n, cl := cl : Dc }, ca := ca, pi := pi, wo := wo, gv := gv, aa := aa, fv := fv, lr := lr, lp := lp, ba := ba, pa := pa : A_l13 }.gvn).n ≤ 1000000)) (br (decide ((winOf { n := (paR { k := k, ca := winOf ca 0 ca.n, pi := winOf pi 0 pi.n, pc := pc, wo := winOf wo 0 wo.n, gv := winOf gv 0 gv.n, aa := winOf aa 0 aa.n, fv := winOf fv 0 fv.n, rr := rr, lr := winOf lr 0 lr.n, lp := winOf lp 0 lp.n, ld := ld, ba := winOf ba 0 ba.n, pa := winOf pa 0 pa.n, cl := cl : Dc }).n, len := (↑(paR { k := k, ca := winOf ca 0 ca.n, pi := winOf pi 0 pi.n, pc := pc, wo := winOf wo 0 wo.n, gv := winOf gv 0 gv.n, aa := winOf aa 0 aa.n, fv := winOf fv 0 fv.n, rr := rr, lr := winOf lr 0 lr.n, lp := winOf lp 0 lp.n, ld := ld, ba := winOf ba 0 ba.n, pa := winOf pa 0 pa.n, cl := cl : Dc }).n : Int), j := 0, k := k, can := ca.n, pin := pi.n, pc := pc, won := wo.n, gvn := gv.n, aan := aa.n, fvn := fv.n, rr := rr, lrn := lr.n, lpn := lp.n, ld := ld, ban := ba.n, pan := pa.n, cl := cl, p := paR { k := k, ca := winOf ca 0 ca.n, pi := winOf pi 0 pi.n, pc := pc, wo := winOf wo 0 wo.n, gv := winOf gv 0 gv.n, aa := winOf aa 0 aa.n, fv := winOf fv 0 fv.n, rr := rr, lr := winOf lr 0 lr.n, lp := winOf lp 0 lp.n, ld := ld, ba := winOf ba 0 ba.n, pa := winOf pa 0 pa.n, cl := cl : Dc }, ca := ca, pi := pi, wo := wo, gv := gv, aa := aa, fv := fv, lr := lr, lp := lp, ba := ba, pa := pa : A_l13 }.gv 0 { n := (paR { k := k, ca := winOf ca 0 ca.n, pi := winOf pi 0 pi.n, pc := pc, wo := winOf wo 0 wo.n, gv := winOf gv 0 gv.n, aa := winOf aa 0 aa.n, fv := winOf fv 0 fv.n, rr := rr, lr := winOf lr 0 lr.n, lp := winOf lp 0 lp.n, ld := ld, ba := winOf ba 0 ba.n, pa := winOf pa 0 pa.n, cl := cl : Dc }).n, len := (↑(paR { k := k, ca := winOf ca 0 ca.n, pi := winOf pi 0 pi.n, pc := pc, wo := winOf wo 0 wo.n, gv := winOf gv 0 gv.n, aa := winOf aa 0 aa.n, fv := winOf fv 0 fv.n, rr := rr, lr := winOf lr 0 lr.n, lp := winOf lp 0 lp.n, ld := ld, ba := winOf ba 0 ba.n, pa := winOf pa 0 pa.n, cl := cl : Dc }).n : Int), j := 0, k := k, can := ca.n, pin := pi.n, pc := pc, won := wo.n, gvn := gv.n, aan := aa.n, fvn := fv.n, rr := rr, lrn := lr.n, lpn := lp.n, ld := ld, ban := ba.n, pan := pa.n, cl := cl, p := paR { k := k, ca := winOf ca 0 ca.n, pi := winOf pi 0 pi.n, pc := pc, wo := winOf wo 0 wo.n, gv := winOf gv 0 gv.n, aa := winOf aa 0 aa.n, fv := winOf fv 0 fv.n, rr := rr, lr := winOf lr 0 lr.n, lp := winOf lp 0 lp.n, ld := ld, ba := winOf ba 0 ba.n, pa := winOf pa 0 pa.n, cl := cl : Dc }, ca := ca, pi := pi, wo := wo, gv := gv, aa := aa, fv := fv, lr := lr, lp := lp, ba := ba, pa := pa : A_l13 }.gvn).n ≤ 1000000 ∧ (winOf { n := (paR { k := k, ca := winOf ca 0 ca.n, pi := winOf pi 0 pi.n, pc := pc, wo := winOf wo 0 wo.n, gv := winOf gv 0 gv.n, aa := winOf aa 0 aa.n, fv := winOf fv 0 fv.n, rr := rr, lr := winOf lr 0 lr.n, lp := winOf lp 0 lp.n, ld := ld, ba := winOf ba 0 ba.n, pa := winOf pa 0 pa.n, cl := cl : Dc }).n, len := (↑(paR { k := k, ca := winOf ca 0 ca.n, pi := winOf pi 0 pi.n, pc := pc, wo := winOf wo 0 wo.n, gv := winOf gv 0 gv.n, aa := winOf aa 0 aa.n, fv := winOf fv 0 fv.n, rr := rr, lr := winOf lr 0 lr.n, lp := winOf lp 0 lp.n, ld := ld, ba := winOf ba 0 ba.n, pa := winOf pa 0 pa.n, cl := cl : Dc }).n : Int), j := 0, k := k, can := ca.n, pin := pi.n, pc := pc, won := wo.n, gvn := gv.n, aan := aa.n, fvn := fv.n, rr := rr, lrn := lr.n, lpn := lp.n, ld := ld, ban := ba.n, pan := pa.n, cl := cl, p := paR { k := k, ca := winOf ca 0 ca.n, pi := winOf pi 0 pi.n, pc := pc, wo := winOf wo 0 wo.n, gv := winOf gv 0 gv.n, aa := winOf aa 0 aa.n, fv := winOf fv 0 fv.n, rr := rr, lr := winOf lr 0 lr.n, lp := winOf lp 0 lp.n, ld := ld, ba := winOf ba 0 ba.n, pa := winOf pa 0 pa.n, cl := cl : Dc }, ca := ca, pi := pi, wo := wo, gv := gv, aa := aa, fv := fv, lr := lr, lp := lp, ba := ba, pa := pa : A_l13 }.aa 0 { n := (paR { k := k, ca := winOf ca 0 ca.n, pi := winOf pi 0 pi.n, pc := pc, wo := winOf wo 0 wo.n, gv := winOf gv 0 gv.n, aa := winOf aa 0 aa.n, fv := winOf fv 0 fv.n, rr := rr, lr := winOf lr 0 lr.n, lp := winOf lp 0 lp.n, ld := ld, ba := winOf ba 0 ba.n, pa := winOf pa 0 pa.n, cl := cl : Dc }).n, len := (↑(paR { k := k, ca := winOf ca 0 ca.n, pi := winOf pi 0 pi.n, pc := pc, wo := winOf wo 0 wo.n, gv := winOf gv 0 gv.n, aa := winOf aa 0 aa.n, fv := winOf fv 0 fv.n, rr := rr, lr := winOf lr 0 lr.n, lp := winOf lp 0 lp.n, ld := ld, ba := winOf ba 0 ba.n, pa := winOf pa 0 pa.n, cl := cl : Dc }).n : Int), j := 0, k := k, can := ca.n, pin := pi.n, pc := pc, won := wo.n, gvn := gv.n, aan := aa.n, fvn := fv.n, rr := rr, lrn := lr.n, lpn := lp.n, ld := ld, ban := ba.n, pan := pa.n, cl := cl, p := paR { k := k, ca := winOf ca 0 ca.n, pi := winOf pi 0 pi.n, pc := pc, wo := winOf wo 0 wo.n, gv := winOf gv 0 gv.n, aa := winOf aa 0 aa.n, fv := winOf fv 0 fv.n, rr := rr, lr := winOf lr 0 lr.n, lp := winOf lp 0 lp.n, ld := ld, ba := winOf ba 0 ba.n, pa := winOf pa 0 pa.n, cl := cl : Dc }, ca := ca, pi := pi, wo := wo, gv := gv, aa := aa, fv := fv, lr := lr, lp := lp, ba := ba, pa := pa : A_l13 }.aan).n ≤ 1000000)) (br (firE (winOf (((Row.zeros 2).setI 0 0 (chkE (winOf gv 0 gv.n))).setI 1 0 (valE (winOf gv 0 gv.n) (winOf aa 0 aa.n))) 0 2) == 0) (br (!decide ({ n := (paR { k := k, ca := winOf ca 0 ca.n, pi := winOf pi 0 pi.n, pc := pc, wo := winOf wo 0 wo.n, gv := winOf gv 0 gv.n, aa := winOf aa 0 aa.n, fv := winOf fv 0 fv.n, rr := rr, lr := winOf lr 0 lr.n, lp := winOf lp 0 lp.n, ld := ld, ba := winOf ba 0 ba.n, pa := winOf pa 0 pa.n, cl := cl : Dc }).n, len := (↑(paR { k := k, ca := winOf ca 0 ca.n, pi := winOf pi 0 pi.n, pc := pc, wo := winOf wo 0 wo.n, gv := winOf gv 0 gv.n, aa := winOf aa 0 aa.n, fv := winOf fv 0 fv.n, rr := rr, lr := winOf lr 0 lr.n, lp := winOf lp 0 lp.n, ld := ld, ba := winOf ba 0 ba.n, pa := winOf pa 0 pa.n, cl := cl : Dc }).n : Int), j := 0, k := k, can := ca.n, pin := pi.n, pc := pc, won := wo.n, gvn := gv.n, aan := aa.n, fvn := fv.n, rr := rr, lrn := lr.n, lpn := lp.n, ld := ld, ban := ba.n, pan := pa.n, cl := cl, p := paR { k := k, ca := winOf ca 0 ca.n, pi := winOf pi 0 pi.n, pc := pc, wo := winOf wo 0 wo.n, gv := winOf gv 0 gv.n, aa := winOf aa 0 aa.n, fv := winOf fv 0 fv.n, rr := rr, lr := winOf lr 0 lr.n, lp := winOf lp 0 lp.n, ld := ld, ba := winOf ba 0 ba.n, pa := winOf pa 0 pa.n, cl := cl : Dc }, ca := ca, pi := pi, wo := wo, gv := gv, aa := aa, fv := fv, lr := lr, lp := lp, ba := ba, pa := pa : A_l13 }.cl ≤ 31)) (some [.v (i64 (8))]) (some [.v (i64 (firE (winOf (((Row.zeros 2).setI 0 0 (chkE (winOf gv 0 gv.n))).setI 1 0 (valE (winOf gv 0 gv.n) (winOf aa 0 aa.n))) 0 2)))])) (some [.v (i64 (firE (winOf (((Row.zeros 2).setI 0 0 (chkE (winOf gv 0 gv.n))).setI 1 0 (valE (winOf gv 0 gv.n) (winOf aa 0 aa.n))) 0 2)))])) (none)) (none)) (br (k == 3) (br (rcc (winOf fv 0 fv.n) rr) (br (rvc (winOf fv 0 fv.n) rr (winOf lr 0 lr.n) (winOf lp 0 lp.n) ld) (br (firE (winOf (((Row.zeros 2).setI 0 0 (rcE (winOf fv 0 fv.n) rr)).setI 1 0 (rvE (winOf fv 0 fv.n) rr (winOf lr 0 lr.n) (winOf lp 0 lp.n) ld)) 0 2) == 0) (br (!decide ({ n := (paR { k := k, ca := winOf ca 0 ca.n, pi := winOf pi 0 pi.n, pc := pc, wo := winOf wo 0 wo.n, gv := winOf gv 0 gv.n, aa := winOf aa 0 aa.n, fv := winOf fv 0 fv.n, rr := rr, lr := winOf lr 0 lr.n, lp := winOf lp 0 lp.n, ld := ld, ba := winOf ba 0 ba.n, pa := winOf pa 0 pa.n, cl := cl : Dc }).n, len := (↑(paR { k := k, ca := winOf ca 0 ca.n, pi := winOf pi 0 pi.n, pc := pc, wo := winOf wo 0 wo.n, gv := winOf gv 0 gv.n, aa := winOf aa 0 aa.n, fv := winOf fv 0 fv.n, rr := rr, lr := winOf lr 0 lr.n, lp := winOf lp 0 lp.n, ld := ld, ba := winOf ba 0 ba.n, pa := winOf pa 0 pa.n, cl := cl : Dc }).n : Int), j := 0, k := k, can := ca.n, pin := pi.n, pc := pc, won := wo.n, gvn := gv.n, aan := aa.n, fvn := fv.n, rr := rr, lrn := lr.n, lpn := lp.n, ld := ld, ban := ba.n, pan := pa.n, cl := cl, p := paR { k := k, ca := winOf ca 0 ca.n, pi := winOf pi 0 pi.n, pc := pc, wo := winOf wo 0 wo.n, gv := winOf gv 0 gv.n, aa := winOf aa 0 aa.n, fv := winOf fv 0 fv.n, rr := rr, lr := winOf lr 0 lr.n, lp := winOf lp 0 lp.n, ld := ld, ba := winOf ba 0 ba.n, pa := winOf pa 0 pa.n, cl := cl : Dc }, ca := ca, pi := pi, wo := wo, gv := gv, aa := aa, fv := fv, lr := lr, lp := lp, ba := ba, pa := pa : A_l13 }.cl ≤ 3)) (some [.v (i64 (8))]) (some [.v (i64 (firE (winOf (((Row.zeros 2).setI 0 0 (rcE (winOf fv 0 fv.n) rr)).setI 1 0 (rvE (winOf fv 0 fv.n) rr (winOf lr 0 lr.n) (winOf lp 0 lp.n) ld)) 0 2)))])) (some [.v (i64 (firE (winOf (((Row.zeros 2).setI 0 0 (rcE (winOf fv 0 fv.n) rr)).setI 1 0 (rvE (winOf fv 0 fv.n) rr (winOf lr 0 lr.n) (winOf lp 0 lp.n) ld)) 0 2)))])) (none)) (none)) (br (k == 4) (br (guc (winOf ba 0 ba.n)) (br (firE (winOf (((Row.zeros 2).setI 0 0 (guE (winOf ba 0 ba.n))).setI 1 0 (lcE (↑ba.n : Int) (winOf pa 0 pa.n))) 0 2) == 0) (br (!decide ({ n := (paR { k := k, ca := winOf ca 0 ca.n, pi := winOf pi 0 pi.n, pc := pc, wo := winOf wo 0 wo.n, gv := winOf gv 0 gv.n, aa := winOf aa 0 aa.n, fv := winOf fv 0 fv.n, rr := rr, lr := winOf lr 0 lr.n, lp := winOf lp 0 lp.n, ld := ld, ba := winOf ba 0 ba.n, pa := winOf pa 0 pa.n, cl := cl : Dc }).n, len := (↑(paR { k := k, ca := winOf ca 0 ca.n, pi := winOf pi 0 pi.n, pc := pc, wo := winOf wo 0 wo.n, gv := winOf gv 0 gv.n, aa := winOf aa 0 aa.n, fv := winOf fv 0 fv.n, rr := rr, lr := winOf lr 0 lr.n, lp := winOf lp 0 lp.n, ld := ld, ba := winOf ba 0 ba.n, pa := winOf pa 0 pa.n, cl := cl : Dc }).n : Int), j := 0, k := k, can := ca.n, pin := pi.n, pc := pc, won := wo.n, gvn := gv.n, aan := aa.n, fvn := fv.n, rr := rr, lrn := lr.n, lpn := lp.n, ld := ld, ban := ba.n, pan := pa.n, cl := cl, p := paR { k := k, ca := winOf ca 0 ca.n, pi := winOf pi 0 pi.n, pc := pc, wo := winOf wo 0 wo.n, gv := winOf gv 0 gv.n, aa := winOf aa 0 aa.n, fv := winOf fv 0 fv.n, rr := rr, lr := winOf lr 0 lr.n, lp := winOf lp 0 lp.n, ld := ld, ba := winOf ba 0 ba.n, pa := winOf pa 0 pa.n, cl := cl : Dc }, ca := ca, pi := pi, wo := wo, gv := gv, aa := aa, fv := fv, lr := lr, lp := lp, ba := ba, pa := pa : A_l13 }.cl ≤ 3)) (some [.v (i64 (8))]) (some [.v (i64 (firE (winOf (((Row.zeros 2).setI 0 0 (guE (winOf ba 0 ba.n))).setI 1 0 (lcE (↑ba.n : Int) (winOf pa 0 pa.n))) 0 2)))])) (some [.v (i64 (firE (winOf (((Row.zeros 2).setI 0 0 (guE (winOf ba 0 ba.n))).setI 1 0 (lcE (↑ba.n : Int) (winOf pa 0 pa.n))) 0 2)))])) (none)) (br (!decide ({ n := (paR { k := k, ca := winOf ca 0 ca.n, pi := winOf pi 0 pi.n, pc := pc, wo := winOf wo 0 wo.n, gv := winOf gv 0 gv.n, aa := winOf aa 0 aa.n, fv := winOf fv 0 fv.n, rr := rr, lr := winOf lr 0 lr.n, lp := winOf lp 0 lp.n, ld := ld, ba := winOf ba 0 ba.n, pa := winOf pa 0 pa.n, cl := cl : Dc }).n, len := (↑(paR { k := k, ca := winOf ca 0 ca.n, pi := winOf pi 0 pi.n, pc := pc, wo := winOf wo 0 wo.n, gv := winOf gv 0 gv.n, aa := winOf aa 0 aa.n, fv := winOf fv 0 fv.n, rr := rr, lr := winOf lr 0 lr.n, lp := winOf lp 0 lp.n, ld := ld, ba := winOf ba 0 ba.n, pa := winOf pa 0 pa.n, cl := cl : Dc }).n : Int), j := 0, k := k, can := ca.n, pin := pi.n, pc := pc, won := wo.n, gvn := gv.n, aan := aa.n, fvn := fv.n, rr := rr, lrn := lr.n, lpn := lp.n, ld := ld, ban := ba.n, pan := pa.n, cl := cl, p := paR { k := k, ca := winOf ca 0 ca.n, pi := winOf pi 0 pi.n, pc := pc, wo := winOf wo 0 wo.n, gv := winOf gv 0 gv.n, aa := winOf aa 0 aa.n, fv := winOf fv 0 fv.n, rr := rr, lr := winOf lr 0 lr.n, lp := winOf lp 0 lp.n, ld := ld, ba := winOf ba 0 ba.n, pa := winOf pa 0 pa.n, cl := cl : Dc }, ca := ca, pi := pi, wo := wo, gv := gv, aa := aa, fv := fv, lr := lr, lp := lp, ba := ba, pa := pa : A_l13 }.cl ≤ 3)) (some [.v (i64 (8))]) (some [.v (i64 (0))]))))))) (none))) (br (c_l13 { n := (paR { k := k, ca := winOf ca 0 ca.n, pi := winOf pi 0 pi.n, pc := pc, wo := winOf wo 0 wo.n, gv := winOf gv 0 gv.n, aa := winOf aa 0 aa.n, fv := winOf fv 0 fv.n, rr := rr, lr := winOf lr 0 lr.n, lp := winOf lp 0 lp.n, ld := ld, ba := winOf ba 0 ba.n, pa := winOf pa 0 pa.n, cl := cl : Dc }).n, len := (↑(paR { k := k, ca := winOf ca 0 ca.n, pi := winOf pi 0 pi.n, pc := pc, wo := winOf wo 0 wo.n, gv := winOf gv 0 gv.n, aa := winOf aa 0 aa.n, fv := winOf fv 0 fv.n, rr := rr, lr := winOf lr 0 lr.n, lp := winOf lp 0 lp.n, ld := ld, ba := winOf ba 0 ba.n, pa := winOf pa 0 pa.n, cl := cl : Dc }).n : Int), j := 0, k := k, can := ca.n, pin := pi.n, pc := pc, won := wo.n, gvn := gv.n, aan := aa.n, fvn := fv.n, rr := rr, lrn := lr.n, lpn := lp.n, ld := ld, ban := ba.n, pan := pa.n, cl := cl, p := paR { k := k, ca := winOf ca 0 ca.n, pi := winOf pi 0 pi.n, pc := pc, wo := winOf wo 0 wo.n, gv := winOf gv 0 gv.n, aa := winOf aa 0 aa.n, fv := winOf fv 0 fv.n, rr := rr, lr := winOf lr 0 lr.n, lp := winOf lp 0 lp.n, ld := ld, ba := winOf ba 0 ba.n, pa := winOf pa 0 pa.n, cl := cl : Dc }, ca := ca, pi := pi, wo := wo, gv := gv, aa := aa, fv := fv, lr := lr, lp := lp, ba := ba, pa := pa : A_l13 }) (br (anyF (fun j => { n := (paR { k := k, ca := winOf ca 0 ca.n, pi := winOf pi 0 pi.n, pc := pc, wo := winOf wo 0 wo.n, gv := winOf gv 0 gv.n, aa := winOf aa 0 aa.n, fv := winOf fv 0 fv.n, rr := rr, lr := winOf lr 0 lr.n, lp := winOf lp 0 lp.n, ld := ld, ba := winOf ba 0 ba.n, pa := winOf pa 0 pa.n, cl := cl : Dc }).n, len := (↑(paR { k := k, ca := winOf ca 0 ca.n, pi := winOf pi 0 pi.n, pc := pc, wo := winOf wo 0 wo.n, gv := winOf gv 0 gv.n, aa := winOf aa 0 aa.n, fv := winOf fv 0 fv.n, rr := rr, lr := winOf lr 0 lr.n, lp := winOf lp 0 lp.n, ld := ld, ba := winOf ba 0 ba.n, pa := winOf pa 0 pa.n, cl := cl : Dc }).n : Int), j := 0, k := k, can := ca.n, pin := pi.n, pc := pc, won := wo.n, gvn := gv.n, aan := aa.n, fvn := fv.n, rr := rr, lrn := lr.n, lpn := lp.n, ld := ld, ban := ba.n, pan := pa.n, cl := cl, p := paR { k := k, ca := winOf ca 0 ca.n, pi := winOf pi 0 pi.n, pc := pc, wo := winOf wo 0 wo.n, gv := winOf gv 0 gv.n, aa := winOf aa 0 aa.n, fv := winOf fv 0 fv.n, rr := rr, lr := winOf lr 0 lr.n, lp := winOf lp 0 lp.n, ld := ld, ba := winOf ba 0 ba.n, pa := winOf pa 0 pa.n, cl := cl : Dc }, ca := ca, pi := pi, wo := wo, gv := gv, aa := aa, fv := fv, lr := lr, lp := lp, ba := ba, pa := pa : A_l13 }.p.I j 0 != { n := (paR { k := k, ca := winOf ca 0 ca.n, pi := winOf pi 0 pi.n, pc := pc, wo := winOf wo 0 wo.n, gv := winOf gv 0 gv.n, aa := winOf aa 0 aa.n, fv := winOf fv 0 fv.n, rr := rr, lr := winOf lr 0 lr.n, lp := winOf lp 0 lp.n, ld := ld, ba := winOf ba 0 ba.n, pa := winOf pa 0 pa.n, cl := cl : Dc }).n, len := (↑(paR { k := k, ca := winOf ca 0 ca.n, pi := winOf pi 0 pi.n, pc := pc, wo := winOf wo 0 wo.n, gv := winOf gv 0 gv.n, aa := winOf aa 0 aa.n, fv := winOf fv 0 fv.n, rr := rr, lr := winOf lr 0 lr.n, lp := winOf lp 0 lp.n, ld := ld, ba := winOf ba 0 ba.n, pa := winOf pa 0 pa.n, cl := cl : Dc }).n : Int), j := 0, k := k, can := ca.n, pin := pi.n, pc := pc, won := wo.n, gvn := gv.n, aan := aa.n, fvn := fv.n, rr := rr, lrn := lr.n, lpn := lp.n, ld := ld, ban := ba.n, pan := pa.n, cl := cl, p := paR { k := k, ca := winOf ca 0 ca.n, pi := winOf pi 0 pi.n, pc := pc, wo := winOf wo 0 wo.n, gv := winOf gv 0 gv.n, aa := winOf aa 0 aa.n, fv := winOf fv 0 fv.n, rr := rr, lr := winOf lr 0 lr.n, lp := winOf lp 0 lp.n, ld := ld, ba := winOf ba 0 ba.n, pa := winOf pa 0 pa.n, cl := cl : Dc }, ca := ca, pi := pi, wo := wo, gv := gv, aa := aa, fv := fv, lr := lr, lp := lp, ba := ba, pa := pa : A_l13 }.k) (paR { k := k, ca := winOf ca 0 ca.n, pi := winOf pi 0 pi.n, pc := pc, wo := winOf wo 0 wo.n, gv := winOf gv 0 gv.n, aa := winOf aa 0 aa.n, fv := winOf fv 0 fv.n, rr := rr, lr := winOf lr 0 lr.n, lp := winOf lp 0 lp.n, ld := ld, ba := winOf ba 0 ba.n, pa := winOf pa 0 pa.n, cl := cl : Dc }).n 0) (some [.v (i64 (8))]) (br (k == 1) (br (pcc (winOf ca 0 ca.n) (winOf pi 0 pi.n)) (br (decide ({ n := (paR { k := k, ca := winOf ca 0 ca.n, pi := winOf pi 0 pi.n, pc := pc, wo := winOf wo 0 wo.n, gv := winOf gv 0 gv.n, aa := winOf aa 0 aa.n, fv := winOf fv 0 fv.n, rr := rr, lr := winOf lr 0 lr.n, lp := winOf lp 0 lp.n, ld := ld, ba := winOf ba 0 ba.n, pa := winOf pa 0 pa.n, cl := cl : Dc }).n, len := (↑(paR { k := k, ca := winOf ca 0 ca.n, pi := winOf pi 0 pi.n, pc := pc, wo := winOf wo 0 wo.n, gv := winOf gv 0 gv.n, aa := winOf aa 0 aa.n, fv := winOf fv 0 fv.n, rr := rr, lr := winOf lr 0 lr.n, lp := winOf lp 0 lp.n, ld := ld, ba := winOf ba 0 ba.n, pa := winOf pa 0 pa.n, cl := cl : Dc }).n : Int), j := 0, k := k, can := ca.n, pin := pi.n, pc := pc, won := wo.n, gvn := gv.n, aan := aa.n, fvn := fv.n, rr := rr, lrn := lr.n, lpn := lp.n, ld := ld, ban := ba.n, pan := pa.n, cl := cl, p := paR { k := k, ca := winOf ca 0 ca.n, pi := winOf pi 0 pi.n, pc := pc, wo := winOf wo 0 wo.n, gv := winOf gv 0 gv.n, aa := winOf aa 0 aa.n, fv := winOf fv 0 fv.n, rr := rr, lr := winOf lr 0 lr.n, lp := winOf lp 0 lp.n, ld := ld, ba := winOf ba 0 ba.n, pa := winOf pa 0 pa.n, cl := cl : Dc }, ca := ca, pi := pi, wo := wo, gv := gv, aa := aa, fv := fv, lr := lr, lp := lp, ba := ba, pa := pa : A_l13 }.pc ≤ 31)) (br (sc (winOf wo 0 wo.n) (↑ca.n : Int)) (br (pcE (winOf ca 0 ca.n) (winOf pi 0 pi.n) == 0) (br (!sb (winOf wo 0 wo.n) (↑ca.n : Int)) (some [.v (i64 (8))]) (some [.v (i64 (pcE (winOf ca 0 ca.n) (winOf pi 0 pi.n)))])) (some [.v (i64 (pcE (winOf ca 0 ca.n) (winOf pi 0 pi.n)))])) (none)) (br (pcE (winOf ca 0 ca.n) (winOf pi 0 pi.n) == 0) (some [.v (i64 (8))]) (some [.v (i64 (pcE (winOf ca 0 ca.n) (winOf pi 0 pi.n)))]))) (none)) (br (k == 2) (br (decide ((winOf { n := (paR { k := k, ca := winOf ca 0 ca.n, pi := winOf pi 0 pi.n, pc := pc, wo := winOf wo 0 wo.n, gv := winOf gv 0 gv.n, aa := winOf aa 0 aa.n, fv := winOf fv 0 fv.n, rr := rr, lr := winOf lr 0 lr.n, lp := winOf lp 0 lp.n, ld := ld, ba := winOf ba 0 ba.n, pa := winOf pa 0 pa.n, cl := cl : Dc }).n, len := (↑(paR { k := k, ca := winOf ca 0 ca.n, pi := winOf pi 0 pi.n, pc := pc, wo := winOf wo 0 wo.n, gv := winOf gv 0 gv.n, aa := winOf aa 0 aa.n, fv := winOf fv 0 fv.n, rr := rr, lr := winOf lr 0 lr.n, lp := winOf lp 0 lp.n, ld := ld, ba := winOf ba 0 ba.n, pa := winOf pa 0 pa.n, cl := cl : Dc }).n : Int), j := 0, k := k, can := ca.n, pin := pi.n, pc := pc, won := wo.n, gvn := gv.n, aan := aa.n, fvn := fv.n, rr := rr, lrn := lr.n, lpn := lp.n, ld := ld, ban := ba.n, pan := pa.n, cl := cl, p := paR { k := k, ca := winOf ca 0 ca.n, pi := winOf pi 0 pi.n, pc := pc, wo := winOf wo 0 wo.n, gv := winOf gv 0 gv.n, aa := winOf aa 0 aa.n, fv := winOf fv 0 fv.n, rr := rr, lr := winOf lr 0 lr.n, lp := winOf lp 0 lp.n, ld := ld, ba := winOf ba 0 ba.n, pa := winOf pa 0 pa.n, cl := cl : Dc }, ca := ca, pi := pi, wo := wo, gv := gv, aa := aa, fv := fv, lr := lr, lp := lp, ba := ba, pa := pa : A_l13 }.gv 0 { n := (paR { k := k, ca := winOf ca 0 ca.n, pi := winOf pi 0 pi.n, pc := pc, wo := winOf wo 0 wo.n, gv := winOf gv 0 gv.n, aa := winOf aa 0 aa.n, fv := winOf fv 0 fv.n, rr := rr, lr := winOf lr 0 lr.n, lp := winOf lp 0 lp.n, ld := ld, ba := winOf ba 0 ba.n, pa := winOf pa 0 pa.n, cl := cl : Dc }).n, len := (↑(paR { k := k, ca := winOf ca 0 ca.n, pi := winOf pi 0 pi.n, pc := pc, wo := winOf wo 0 wo.n, gv := winOf gv 0 gv.n, aa := winOf aa 0 aa.n, fv := winOf fv 0 fv.n, rr := rr, lr := winOf lr 0 lr.n, lp := winOf lp 0 lp.n, ld := ld, ba := winOf ba 0 ba.n, pa := winOf pa 0 pa.n, cl := cl : Dc }).n : Int), j := 0, k := k, can := ca.n, pin := pi.n, pc := pc, won := wo.n, gvn := gv.n, aan := aa.n, fvn := fv.n, rr := rr, lrn := lr.n, lpn := lp.n, ld := ld, ban := ba.n, pan := pa.n, cl := cl, p := paR { k := k, ca := winOf ca 0 ca.n, pi := winOf pi 0 pi.n, pc := pc, wo := winOf wo 0 wo.n, gv := winOf gv 0 gv.n, aa := winOf aa 0 aa.n, fv := winOf fv 0 fv.n, rr := rr, lr := winOf lr 0 lr.n, lp := winOf lp 0 lp.n, ld := ld, ba := winOf ba 0 ba.n, pa := winOf pa 0 pa.n, cl := cl : Dc }, ca := ca, pi := pi, wo := wo, gv := gv, aa := aa, fv := fv, lr := lr, lp := lp, ba := ba, pa := pa : A_l13 }.gvn).n ≤ 1000000)) (br (decide ((winOf { n := (paR { k := k, ca := winOf ca 0 ca.n, pi := winOf pi 0 pi.n, pc := pc, wo := winOf wo 0 wo.n, gv := winOf gv 0 gv.n, aa := winOf aa 0 aa.n, fv := winOf fv 0 fv.n, rr := rr, lr := winOf lr 0 lr.n, lp := winOf lp 0 lp.n, ld := ld, ba := winOf ba 0 ba.n, pa := winOf pa 0 pa.n, cl := cl : Dc }).n, len := (↑(paR { k := k, ca := winOf ca 0 ca.n, pi := winOf pi 0 pi.n, pc := pc, wo := winOf wo 0 wo.n, gv := winOf gv 0 gv.n, aa := winOf aa 0 aa.n, fv := winOf fv 0 fv.n, rr := rr, lr := winOf lr 0 lr.n, lp := winOf lp 0 lp.n, ld := ld, ba := winOf ba 0 ba.n, pa := winOf pa 0 pa.n, cl := cl : Dc }).n : Int), j := 0, k := k, can := ca.n, pin := pi.n, pc := pc, won := wo.n, gvn := gv.n, aan := aa.n, fvn := fv.n, rr := rr, lrn := lr.n, lpn := lp.n, ld := ld, ban := ba.n, pan := pa.n, cl := cl, p := paR { k := k, ca := winOf ca 0 ca.n, pi := winOf pi 0 pi.n, pc := pc, wo := winOf wo 0 wo.n, gv := winOf gv 0 gv.n, aa := winOf aa 0 aa.n, fv := winOf fv 0 fv.n, rr := rr, lr := winOf lr 0 lr.n, lp := winOf lp 0 lp.n, ld := ld, ba := winOf ba 0 ba.n, pa := winOf pa 0 pa.n, cl := cl : Dc }, ca := ca, pi := pi, wo := wo, gv := gv, aa := aa, fv := fv, lr := lr, lp := lp, ba := ba, pa := pa : A_l13 }.gv 0 { n := (paR { k := k, ca := winOf ca 0 ca.n, pi := winOf pi 0 pi.n, pc := pc, wo := winOf wo 0 wo.n, gv := winOf gv 0 gv.n, aa := winOf aa 0 aa.n, fv := winOf fv 0 fv.n, rr := rr, lr := winOf lr 0 lr.n, lp := winOf lp 0 lp.n, ld := ld, ba := winOf ba 0 ba.n, pa := winOf pa 0 pa.n, cl := cl : Dc }).n, len := (↑(paR { k := k, ca := winOf ca 0 ca.n, pi := winOf pi 0 pi.n, pc := pc, wo := winOf wo 0 wo.n, gv := winOf gv 0 gv.n, aa := winOf aa 0 aa.n, fv := winOf fv 0 fv.n, rr := rr, lr := winOf lr 0 lr.n, lp := winOf lp 0 lp.n, ld := ld, ba := winOf ba 0 ba.n, pa := winOf pa 0 pa.n, cl := cl : Dc }).n : Int), j := 0, k := k, can := ca.n, pin := pi.n, pc := pc, won := wo.n, gvn := gv.n, aan := aa.n, fvn := fv.n, rr := rr, lrn := lr.n, lpn := lp.n, ld := ld, ban := ba.n, pan := pa.n, cl := cl, p := paR { k := k, ca := winOf ca 0 ca.n, pi := winOf pi 0 pi.n, pc := pc, wo := winOf wo 0 wo.n, gv := winOf gv 0 gv.n, aa := winOf aa 0 aa.n, fv := winOf fv 0 fv.n, rr := rr, lr := winOf lr 0 lr.n, lp := winOf lp 0 lp.n, ld := ld, ba := winOf ba 0 ba.n, pa := winOf pa 0 pa.n, cl := cl : Dc }, ca := ca, pi := pi, wo := wo, gv := gv, aa := aa, fv := fv, lr := lr, lp := lp, ba := ba, pa := pa : A_l13 }.gvn).n ≤ 1000000 ∧ (winOf { n := (paR { k := k, ca := winOf ca 0 ca.n, pi := winOf pi 0 pi.n, pc := pc, wo := winOf wo 0 wo.n, gv := winOf gv 0 gv.n, aa := winOf aa 0 aa.n, fv := winOf fv 0 fv.n, rr := rr, lr := winOf lr 0 lr.n, lp := winOf lp 0 lp.n, ld := ld, ba := winOf ba 0 ba.n, pa := winOf pa 0 pa.n, cl := cl : Dc }).n, len := (↑(paR { k := k, ca := winOf ca 0 ca.n, pi := winOf pi 0 pi.n, pc := pc, wo := winOf wo 0 wo.n, gv := winOf gv 0 gv.n, aa := winOf aa 0 aa.n, fv := winOf fv 0 fv.n, rr := rr, lr := winOf lr 0 lr.n, lp := winOf lp 0 lp.n, ld := ld, ba := winOf ba 0 ba.n, pa := winOf pa 0 pa.n, cl := cl : Dc }).n : Int), j := 0, k := k, can := ca.n, pin := pi.n, pc := pc, won := wo.n, gvn := gv.n, aan := aa.n, fvn := fv.n, rr := rr, lrn := lr.n, lpn := lp.n, ld := ld, ban := ba.n, pan := pa.n, cl := cl, p := paR { k := k, ca := winOf ca 0 ca.n, pi := winOf pi 0 pi.n, pc := pc, wo := winOf wo 0 wo.n, gv := winOf gv 0 gv.n, aa := winOf aa 0 aa.n, fv := winOf fv 0 fv.n, rr := rr, lr := winOf lr 0 lr.n, lp := winOf lp 0 lp.n, ld := ld, ba := winOf ba 0 ba.n, pa := winOf pa 0 pa.n, cl := cl : Dc }, ca := ca, pi := pi, wo := wo, gv := gv, aa := aa, fv := fv, lr := lr, lp := lp, ba := ba, pa := pa : A_l13 }.aa 0 { n := (paR { k := k, ca := winOf ca 0 ca.n, pi := winOf pi 0 pi.n, pc := pc, wo := winOf wo 0 wo.n, gv := winOf gv 0 gv.n, aa := winOf aa 0 aa.n, fv := winOf fv 0 fv.n, rr := rr, lr := winOf lr 0 lr.n, lp := winOf lp 0 lp.n, ld := ld, ba := winOf ba 0 ba.n, pa := winOf pa 0 pa.n, cl := cl : Dc }).n, len := (↑(paR { k := k, ca := winOf ca 0 ca.n, pi := winOf pi 0 pi.n, pc := pc, wo := winOf wo 0 wo.n, gv := winOf gv 0 gv.n, aa := winOf aa 0 aa.n, fv := winOf fv 0 fv.n, rr := rr, lr := winOf lr 0 lr.n, lp := winOf lp 0 lp.n, ld := ld, ba := winOf ba 0 ba.n, pa := winOf pa 0 pa.n, cl := cl : Dc }).n : Int), j := 0, k := k, can := ca.n, pin := pi.n, pc := pc, won := wo.n, gvn := gv.n, aan := aa.n, fvn := fv.n, rr := rr, lrn := lr.n, lpn := lp.n, ld := ld, ban := ba.n, pan := pa.n, cl := cl, p := paR { k := k, ca := winOf ca 0 ca.n, pi := winOf pi 0 pi.n, pc := pc, wo := winOf wo 0 wo.n, gv := winOf gv 0 gv.n, aa := winOf aa 0 aa.n, fv := winOf fv 0 fv.n, rr := rr, lr := winOf lr 0 lr.n, lp := winOf lp 0 lp.n, ld := ld, ba := winOf ba 0 ba.n, pa := winOf pa 0 pa.n, cl := cl : Dc }, ca := ca, pi := pi, wo := wo, gv := gv, aa := aa, fv := fv, lr := lr, lp := lp, ba := ba, pa := pa : A_l13 }.aan).n ≤ 1000000)) (br (firE (winOf (((Row.zeros 2).setI 0 0 (chkE (winOf gv 0 gv.n))).setI 1 0 (valE (winOf gv 0 gv.n) (winOf aa 0 aa.n))) 0 2) == 0) (br (!decide ({ n := (paR { k := k, ca := winOf ca 0 ca.n, pi := winOf pi 0 pi.n, pc := pc, wo := winOf wo 0 wo.n, gv := winOf gv 0 gv.n, aa := winOf aa 0 aa.n, fv := winOf fv 0 fv.n, rr := rr, lr := winOf lr 0 lr.n, lp := winOf lp 0 lp.n, ld := ld, ba := winOf ba 0 ba.n, pa := winOf pa 0 pa.n, cl := cl : Dc }).n, len := (↑(paR { k := k, ca := winOf ca 0 ca.n, pi := winOf pi 0 pi.n, pc := pc, wo := winOf wo 0 wo.n, gv := winOf gv 0 gv.n, aa := winOf aa 0 aa.n, fv := winOf fv 0 fv.n, rr := rr, lr := winOf lr 0 lr.n, lp := winOf lp 0 lp.n, ld := ld, ba := winOf ba 0 ba.n, pa := winOf pa 0 pa.n, cl := cl : Dc }).n : Int), j := 0, k := k, can := ca.n, pin := pi.n, pc := pc, won := wo.n, gvn := gv.n, aan := aa.n, fvn := fv.n, rr := rr, lrn := lr.n, lpn := lp.n, ld := ld, ban := ba.n, pan := pa.n, cl := cl, p := paR { k := k, ca := winOf ca 0 ca.n, pi := winOf pi 0 pi.n, pc := pc, wo := winOf wo 0 wo.n, gv := winOf gv 0 gv.n, aa := winOf aa 0 aa.n, fv := winOf fv 0 fv.n, rr := rr, lr := winOf lr 0 lr.n, lp := winOf lp 0 lp.n, ld := ld, ba := winOf ba 0 ba.n, pa := winOf pa 0 pa.n, cl := cl : Dc }, ca := ca, pi := pi, wo := wo, gv := gv, aa := aa, fv := fv, lr := lr, lp := lp, ba := ba, pa := pa : A_l13 }.cl ≤ 31)) (some [.v (i64 (8))]) (some [.v (i64 (firE (winOf (((Row.zeros 2).setI 0 0 (chkE (winOf gv 0 gv.n))).setI 1 0 (valE (winOf gv 0 gv.n) (winOf aa 0 aa.n))) 0 2)))])) (some [.v (i64 (firE (winOf (((Row.zeros 2).setI 0 0 (chkE (winOf gv 0 gv.n))).setI 1 0 (valE (winOf gv 0 gv.n) (winOf aa 0 aa.n))) 0 2)))])) (none)) (none)) (br (k == 3) (br (rcc (winOf fv 0 fv.n) rr) (br (rvc (winOf fv 0 fv.n) rr (winOf lr 0 lr.n) (winOf lp 0 lp.n) ld) (br (firE (winOf (((Row.zeros 2).setI 0 0 (rcE (winOf fv 0 fv.n) rr)).setI 1 0 (rvE (winOf fv 0 fv.n) rr (winOf lr 0 lr.n) (winOf lp 0 lp.n) ld)) 0 2) == 0) (br (!decide ({ n := (paR { k := k, ca := winOf ca 0 ca.n, pi := winOf pi 0 pi.n, pc := pc, wo := winOf wo 0 wo.n, gv := winOf gv 0 gv.n, aa := winOf aa 0 aa.n, fv := winOf fv 0 fv.n, rr := rr, lr := winOf lr 0 lr.n, lp := winOf lp 0 lp.n, ld := ld, ba := winOf ba 0 ba.n, pa := winOf pa 0 pa.n, cl := cl : Dc }).n, len := (↑(paR { k := k, ca := winOf ca 0 ca.n, pi := winOf pi 0 pi.n, pc := pc, wo := winOf wo 0 wo.n, gv := winOf gv 0 gv.n, aa := winOf aa 0 aa.n, fv := winOf fv 0 fv.n, rr := rr, lr := winOf lr 0 lr.n, lp := winOf lp 0 lp.n, ld := ld, ba := winOf ba 0 ba.n, pa := winOf pa 0 pa.n, cl := cl : Dc }).n : Int), j := 0, k := k, can := ca.n, pin := pi.n, pc := pc, won := wo.n, gvn := gv.n, aan := aa.n, fvn := fv.n, rr := rr, lrn := lr.n, lpn := lp.n, ld := ld, ban := ba.n, pan := pa.n, cl := cl, p := paR { k := k, ca := winOf ca 0 ca.n, pi := winOf pi 0 pi.n, pc := pc, wo := winOf wo 0 wo.n, gv := winOf gv 0 gv.n, aa := winOf aa 0 aa.n, fv := winOf fv 0 fv.n, rr := rr, lr := winOf lr 0 lr.n, lp := winOf lp 0 lp.n, ld := ld, ba := winOf ba 0 ba.n, pa := winOf pa 0 pa.n, cl := cl : Dc }, ca := ca, pi := pi, wo := wo, gv := gv, aa := aa, fv := fv, lr := lr, lp := lp, ba := ba, pa := pa : A_l13 }.cl ≤ 3)) (some [.v (i64 (8))]) (some [.v (i64 (firE (winOf (((Row.zeros 2).setI 0 0 (rcE (winOf fv 0 fv.n) rr)).setI 1 0 (rvE (winOf fv 0 fv.n) rr (winOf lr 0 lr.n) (winOf lp 0 lp.n) ld)) 0 2)))])) (some [.v (i64 (firE (winOf (((Row.zeros 2).setI 0 0 (rcE (winOf fv 0 fv.n) rr)).setI 1 0 (rvE (winOf fv 0 fv.n) rr (winOf lr 0 lr.n) (winOf lp 0 lp.n) ld)) 0 2)))])) (none)) (none)) (br (k == 4) (br (guc (winOf ba 0 ba.n)) (br (firE (winOf (((Row.zeros 2).setI 0 0 (guE (winOf ba 0 ba.n))).setI 1 0 (lcE (↑ba.n : Int) (winOf pa 0 pa.n))) 0 2) == 0) (br (!decide ({ n := (paR { k := k, ca := winOf ca 0 ca.n, pi := winOf pi 0 pi.n, pc := pc, wo := winOf wo 0 wo.n, gv := winOf gv 0 gv.n, aa := winOf aa 0 aa.n, fv := winOf fv 0 fv.n, rr := rr, lr := winOf lr 0 lr.n, lp := winOf lp 0 lp.n, ld := ld, ba := winOf ba 0 ba.n, pa := winOf pa 0 pa.n, cl := cl : Dc }).n, len := (↑(paR { k := k, ca := winOf ca 0 ca.n, pi := winOf pi 0 pi.n, pc := pc, wo := winOf wo 0 wo.n, gv := winOf gv 0 gv.n, aa := winOf aa 0 aa.n, fv := winOf fv 0 fv.n, rr := rr, lr := winOf lr 0 lr.n, lp := winOf lp 0 lp.n, ld := ld, ba := winOf ba 0 ba.n, pa := winOf pa 0 pa.n, cl := cl : Dc }).n : Int), j := 0, k := k, can := ca.n, pin := pi.n, pc := pc, won := wo.n, gvn := gv.n, aan := aa.n, fvn := fv.n, rr := rr, lrn := lr.n, lpn := lp.n, ld := ld, ban := ba.n, pan := pa.n, cl := cl, p := paR { k := k, ca := winOf ca 0 ca.n, pi := winOf pi 0 pi.n, pc := pc, wo := winOf wo 0 wo.n, gv := winOf gv 0 gv.n, aa := winOf aa 0 aa.n, fv := winOf fv 0 fv.n, rr := rr, lr := winOf lr 0 lr.n, lp := winOf lp 0 lp.n, ld := ld, ba := winOf ba 0 ba.n, pa := winOf pa 0 pa.n, cl := cl : Dc }, ca := ca, pi := pi, wo := wo, gv := gv, aa := aa, fv := fv, lr := lr, lp := lp, ba := ba, pa := pa : A_l13 }.cl ≤ 3)) (some [.v (i64 (8))]) (some [.v (i64 (firE (winOf (((Row.zeros 2).setI 0 0 (guE (winOf ba 0 ba.n))).setI 1 0 (lcE (↑ba.n : Int) (winOf pa 0 pa.n))) 0 2)))])) (some [.v (i64 (firE (winOf (((Row.zeros 2).setI 0 0 (guE (winOf ba 0 ba.n))).setI 1 0 (lcE (↑ba.n : Int) (winOf pa 0 pa.n))) 0 2)))])) (none)) (br (!decide ({ n := (paR { k := k, ca := winOf ca 0 ca.n, pi := winOf pi 0 pi.n, pc := pc, wo := winOf wo 0 wo.n, gv := winOf gv 0 gv.n, aa := winOf aa 0 aa.n, fv := winOf fv 0 fv.n, rr := rr, lr := winOf lr 0 lr.n, lp := winOf lp 0 lp.n, ld := ld, ba := winOf ba 0 ba.n, pa := winOf pa 0 pa.n, cl := cl : Dc }).n, len := (↑(paR { k := k, ca := winOf ca 0 ca.n, pi := winOf pi 0 pi.n, pc := pc, wo := winOf wo 0 wo.n, gv := winOf gv 0 gv.n, aa := winOf aa 0 aa.n, fv := winOf fv 0 fv.n, rr := rr, lr := winOf lr 0 lr.n, lp := winOf lp 0 lp.n, ld := ld, ba := winOf ba 0 ba.n, pa := winOf pa 0 pa.n, cl := cl : Dc }).n : Int), j := 0, k := k, can := ca.n, pin := pi.n, pc := pc, won := wo.n, gvn := gv.n, aan := aa.n, fvn := fv.n, rr := rr, lrn := lr.n, lpn := lp.n, ld := ld, ban := ba.n, pan := pa.n, cl := cl, p := paR { k := k, ca := winOf ca 0 ca.n, pi := winOf pi 0 pi.n, pc := pc, wo := winOf wo 0 wo.n, gv := winOf gv 0 gv.n, aa := winOf aa 0 aa.n, fv := winOf fv 0 fv.n, rr := rr, lr := winOf lr 0 lr.n, lp := winOf lp 0 lp.n, ld := ld, ba := winOf ba 0 ba.n, pa := winOf pa 0 pa.n, cl := cl : Dc }, ca := ca, pi := pi, wo := wo, gv := gv, aa := aa, fv := fv, lr := lr, lp := lp, ba := ba, pa := pa : A_l13 }.cl ≤ 3)) (some [.v (i64 (8))]) (some [.v (i64 (0))]))))))) (none)))) := by kernel_rfl
set_option maxRecDepth 100000 in
theorem ok_l13 (sc sb : Row → Int → Bool) (pcc : Row → Row → Bool) (pcE : Row → Row → Int) (rcc : Row → Int → Bool) (rcE : Row → Int → Int) (rvc : Row → Int → Row → Row → Int → Bool) (rvE : Row → Int → Row → Row → Int → Int) (guc : Row → Bool) (guO : Row → Row) (guE : Row → Int) (lcE : Int → Row → Int) : LoopOk (C13 sc sb pcc pcE rcc rcE rvc rvE guc guO guE lcE) l13.C := l13.ok (by kernel_rfl)
  (fun its x h hc => by
    replace h : d_l13 its = some x := h
    unfold d_l13 at h
    split at h
    · cases h
      obtain ⟨h1, h2, h3⟩ := c_l13_iff.1 hc
      dsimp only at h1 h2
      subst h1 h2
      rfl
    · cases h)
  (fun x hc => by have := c_l13_iff.1 hc; show x.n < 18446744073709551616; omega)
  (fun q ⟨n, len0, j0, k, can, pin, pc, won, gvn, aan, fvn, rr, lrn, lpn, ld, ban, pan, cl, p, ca, pi, wo, gv, aa, fv, lr, lp, ba, pa⟩ j hc hi R K => by
    obtain ⟨h1, h2, h3⟩ := c_l13_iff.1 hc
    dsimp only at *
    replace hi : j < n := hi
    refine (r_l13 sc sb pcc pcE rcc rcE rvc rvE guc guO guE lcE R K q (n) ((n : Int)) ((j : Int)) (k) (can) (pin) (pc) (won) (gvn) (aan) (fvn) (rr) (lrn) (lpn) (ld) (ban) (pan) (cl) (p) (ca) (pi) (wo) (gv) (aa) (fv) (lr) (lp) (ba) (pa)).trans ?_
    rw [Int.toNat_natCast, Nat.zero_add j, gd j n hi, ltd j n hi, wsn (by omega)]
    rfl)
  (fun q ⟨n, len0, j0, k, can, pin, pc, won, gvn, aan, fvn, rr, lrn, lpn, ld, ban, pan, cl, p, ca, pi, wo, gv, aa, fv, lr, lp, ba, pa⟩ hc R K => by
    obtain ⟨h1, h2, h3⟩ := c_l13_iff.1 hc
    dsimp only at *
    refine (r_l13 sc sb pcc pcE rcc rcE rvc rvE guc guO guE lcE R K q (n) ((n : Int)) ((n : Int)) (k) (can) (pin) (pc) (won) (gvn) (aan) (fvn) (rr) (lrn) (lpn) (ld) (ban) (pan) (cl) (p) (ca) (pi) (wo) (gv) (aa) (fv) (lr) (lp) (ba) (pa)).trans ?_
    rw [ltn n]
    rfl)
theorem firE_two (a b : Int) : firE (winOf (((Row.zeros 2).setI 0 0 a).setI 1 0 b) 0 2) = bif a != 0 then a else b := by
  have h0 : (winOf (((Row.zeros 2).setI 0 0 a).setI 1 0 b) 0 2).I 0 0 = a := rfl
  have h1 : (winOf (((Row.zeros 2).setI 0 0 a).setI 1 0 b) 0 2).I 1 0 = b := rfl
  have hn : (winOf (((Row.zeros 2).setI 0 0 a).setI 1 0 b) 0 2).n = 2 := rfl
  unfold firE
  rw [hn]
  generalize winOf (((Row.zeros 2).setI 0 0 a).setI 1 0 b) 0 2 = r at h0 h1
  show (bif (r.I 0 0 != 0) || ((r.I 1 0 != 0) || false) then r.I (bif (r.I 0 0 != 0) then 0 else bif (r.I 1 0 != 0) then 1 else 2) 0 else 0) = _
  rw [h0, h1]
  cases c0 : a != 0
  · cases c1 : b != 0
    · have : b = 0 := by simpa using c1
      rw [this]; rfl
    · exact h1
  · exact h0
def two (a b : Int) : Int := bif a != 0 then a else b
def okE (e : Int) (ok : Bool) : Int := bif (e == 0) && !ok then 8 else e
def ckBad (x : Dc) : Bool := decide (x.k < 1) || (decide (x.k > 4) || (x.k == 1 && x.cl != 0))
/-- The error of a document, by what the layers say of its parts. -/
def ckE (v : Ck) (x : Dc) : Int := bif ckBad x || otB x.k x then 8 else
  bif x.k == 1 then okE (v.pcE (win0 x.ca) (win0 x.pi)) (decide (x.pc ≤ 31) && v.sb (win0 x.wo) x.ca.n) else
  bif x.k == 2 then okE (two (chkE x.gv) (valE x.gv x.aa)) (decide (x.cl ≤ 31)) else
  bif x.k == 3 then okE (two (v.rcE (win0 x.fv) x.rr) (v.rvE (win0 x.fv) x.rr (win0 x.lr) (win0 x.lp) x.ld)) (decide (x.cl ≤ 3)) else
  okE (two (v.guE (win0 x.ba)) (v.lcE x.ba.n (win0 x.pa))) (decide (x.cl ≤ 3))
def ckC (v : Ck) (x : Dc) : Bool := ckBad x || (otB x.k x || (
  bif x.k == 1 then v.pcc (win0 x.ca) (win0 x.pi) && (!decide (x.pc ≤ 31) || v.sc (win0 x.wo) x.ca.n) else
  bif x.k == 2 then decide (x.gv.n ≤ 1000000 ∧ x.aa.n ≤ 1000000) else
  bif x.k == 3 then v.rcc (win0 x.fv) x.rr && v.rvc (win0 x.fv) x.rr (win0 x.lr) (win0 x.lp) x.ld else
  v.guc (win0 x.ba)))
def Fckd (v : Ck) : List D → Option (Bool × List D)
  | [d] => match asDoc d with
    | some x => some (ckC v x, [.v (i64 (ckE v x))])
    | none => none
  | _ => none
structure Ck.Ok (v : Ck) : Prop where
  sq : DenW Tryz.prog Wd 31 (FSq v.sc v.sb)
  pc : DenW Tryz.prog Wd 30 (FPc v.pcc v.pcE)
  rc : DenW Tryz.prog Wd 33 (FRc v.rcc v.rcE)
  rv : DenW Tryz.prog Wd 34 (FRv v.rvc v.rvE)
  gu : DenW Tryz.prog Wd 35 (FGu v.guc v.guO v.guE)
  lc : DenW Tryz.prog Wd 36 (FLc v.lcE)
theorem C13_ok {v : Ck} (hv : v.Ok) : CxW (C13 v.sc v.sb v.pcc v.pcE v.rcc v.rcE v.rvc v.rvE v.guc v.guO v.guE v.lcE) Wd := mkCx_okW enter mixed (fun p h => by
  simp only [List.mem_cons, List.not_mem_nil, or_false] at h
  rcases h with rfl | rfl | rfl | rfl | rfl | rfl | rfl | rfl | rfl | rfl
  · exact hv.sq
  · exact hv.pc
  · exact hv.rc
  · exact hv.rv
  · exact hv.gu
  · exact hv.lc
  · exact den_chk.at _
  · exact den_val.at _
  · exact den_fst.at _
  · exact den_par.at _) (fun l h => by
  simp only [List.mem_cons, List.not_mem_nil, or_false] at h
  rcases h with rfl
  exact ok_l13 ..)
/-- What Check comes to behind the parts. -/
def ckA (v : Ck) (x : Dc) : Option (List D) :=
  br (x.k == 1) (br (v.pcc (win0 x.ca) (win0 x.pi)) (br (decide (x.pc ≤ 31)) (br (v.sc (win0 x.wo) x.ca.n) (br (v.pcE (win0 x.ca) (win0 x.pi) == 0) (br (!v.sb (win0 x.wo) x.ca.n) (some [.v (i64 (8))]) (some [.v (i64 (v.pcE (win0 x.ca) (win0 x.pi)))])) (some [.v (i64 (v.pcE (win0 x.ca) (win0 x.pi)))])) none) (br (v.pcE (win0 x.ca) (win0 x.pi) == 0) (some [.v (i64 (8))]) (some [.v (i64 (v.pcE (win0 x.ca) (win0 x.pi)))]))) none)
  (br (x.k == 2) (br (decide (x.gv.n ≤ 1000000)) (br (decide (x.gv.n ≤ 1000000 ∧ x.aa.n ≤ 1000000)) (br (firE (winOf (((Row.zeros 2).setI 0 0 (chkE x.gv)).setI 1 0 (valE x.gv x.aa)) 0 2) == 0) (br (!decide (x.cl ≤ 31)) (some [.v (i64 (8))]) (some [.v (i64 (firE (winOf (((Row.zeros 2).setI 0 0 (chkE x.gv)).setI 1 0 (valE x.gv x.aa)) 0 2)))])) (some [.v (i64 (firE (winOf (((Row.zeros 2).setI 0 0 (chkE x.gv)).setI 1 0 (valE x.gv x.aa)) 0 2)))])) none) none)
  (br (x.k == 3) (br (v.rcc (win0 x.fv) x.rr) (br (v.rvc (win0 x.fv) x.rr (win0 x.lr) (win0 x.lp) x.ld) (br (firE (winOf (((Row.zeros 2).setI 0 0 (v.rcE (win0 x.fv) x.rr)).setI 1 0 (v.rvE (win0 x.fv) x.rr (win0 x.lr) (win0 x.lp) x.ld)) 0 2) == 0) (br (!decide (x.cl ≤ 3)) (some [.v (i64 (8))]) (some [.v (i64 (firE (winOf (((Row.zeros 2).setI 0 0 (v.rcE (win0 x.fv) x.rr)).setI 1 0 (v.rvE (win0 x.fv) x.rr (win0 x.lr) (win0 x.lp) x.ld)) 0 2)))])) (some [.v (i64 (firE (winOf (((Row.zeros 2).setI 0 0 (v.rcE (win0 x.fv) x.rr)).setI 1 0 (v.rvE (win0 x.fv) x.rr (win0 x.lr) (win0 x.lp) x.ld)) 0 2)))])) none) none)
  (br (x.k == 4) (br (v.guc (win0 x.ba)) (br (firE (winOf (((Row.zeros 2).setI 0 0 (v.guE (win0 x.ba))).setI 1 0 (v.lcE (x.ba.n : Int) (win0 x.pa))) 0 2) == 0) (br (!decide (x.cl ≤ 3)) (some [.v (i64 (8))]) (some [.v (i64 (firE (winOf (((Row.zeros 2).setI 0 0 (v.guE (win0 x.ba))).setI 1 0 (v.lcE (x.ba.n : Int) (win0 x.pa))) 0 2)))])) (some [.v (i64 (firE (winOf (((Row.zeros 2).setI 0 0 (v.guE (win0 x.ba))).setI 1 0 (v.lcE (x.ba.n : Int) (win0 x.pa))) 0 2)))])) none) (br (!decide (x.cl ≤ 3)) (some [.v (i64 (8))]) (some [.v (i64 (0))])))))
theorem ok_br (e : Int) (ok : Bool) : br (e == 0) (br (!ok) (some [D.v (i64 8)]) (some [D.v (i64 e)])) (some [D.v (i64 e)]) = some [D.v (i64 (okE e ok))] := by
  unfold okE
  cases e == 0 <;> cases ok <;> rfl
theorem paR_n (x : Dc) : (paR x).n ≤ 4 := by
  unfold paR
  cases fC x <;> cases fG x <;> cases fR x <;> cases fS x <;> decide
theorem ckA_eq (v : Ck) (x : Dc) (h1 : ckBad x = false) (h2 : otB x.k x = false) (hc : ckC v x = true) : ckA v x = some [.v (i64 (ckE v x))] := by
  have hk : 1 ≤ x.k ∧ x.k ≤ 4 := by
    unfold ckBad at h1
    simp only [Bool.or_eq_false_iff, decide_eq_false_iff_not] at h1
    omega
  unfold ckC at hc
  rw [h1, h2, Bool.false_or, Bool.false_or] at hc
  unfold ckE ckA
  rw [h1, h2]
  simp only [firE_two]
  show _ = some [D.v (i64 (bif x.k == 1 then _ else _))]
  have : x.k = 1 ∨ x.k = 2 ∨ x.k = 3 ∨ x.k = 4 := by omega
  rcases this with e | e | e | e <;> rw [e] at hc ⊢
  · replace hc : (v.pcc (win0 x.ca) (win0 x.pi) && (!decide (x.pc ≤ 31) || v.sc (win0 x.wo) x.ca.n)) = true := hc
    simp only [Bool.and_eq_true] at hc
    show br (v.pcc (win0 x.ca) (win0 x.pi)) _ _ = some [D.v (i64 (okE (v.pcE (win0 x.ca) (win0 x.pi)) (decide (x.pc ≤ 31) && v.sb (win0 x.wo) x.ca.n)))]
    rw [hc.1, br_true]
    cases c : decide (x.pc ≤ 31)
    · rw [br_false]
      exact ok_br _ false
    · have h3 : v.sc (win0 x.wo) x.ca.n = true := by have := hc.2; rw [c] at this; exact this
      rw [br_true, h3, br_true]
      exact ok_br _ _
  · replace hc : decide (x.gv.n ≤ 1000000 ∧ x.aa.n ≤ 1000000) = true := hc
    have h3 := of_decide_eq_true hc
    show br (decide (x.gv.n ≤ 1000000)) (br (decide (x.gv.n ≤ 1000000 ∧ x.aa.n ≤ 1000000)) _ none) none = _
    rw [decide_eq_true h3.1, hc, br_true, br_true]
    exact ok_br _ _
  · replace hc : (v.rcc (win0 x.fv) x.rr && v.rvc (win0 x.fv) x.rr (win0 x.lr) (win0 x.lp) x.ld) = true := hc
    simp only [Bool.and_eq_true] at hc
    show br (v.rcc (win0 x.fv) x.rr) (br (v.rvc (win0 x.fv) x.rr (win0 x.lr) (win0 x.lp) x.ld) _ none) none = _
    rw [hc.1, hc.2, br_true, br_true]
    exact ok_br _ _
  · replace hc : v.guc (win0 x.ba) = true := hc
    show br (v.guc (win0 x.ba)) _ none = _
    rw [hc, br_true]
    exact ok_br _ _
theorem den_ckd {v : Ck} (hv : v.Ok) : DenW Tryz.prog Wd 13 (Fckd v) := evF_denW (C13_ok hv) fun ds rs h => by
  unfold Fckd at h
  split at h
  · split at h
    · rename_i x hx
      simp only [Option.some.injEq, Prod.mk.injEq] at h
      obtain ⟨hc, rfl⟩ := h
      rw [asDoc_eq hx]
      refine (u13 v.sc v.sb v.pcc v.pcE v.rcc v.rcE v.rvc v.rvE v.guc v.guO v.guE v.lcE x.k x.ca x.pi x.pc x.wo x.gv x.aa x.fv x.rr x.lr x.lp x.ld x.ba x.pa x.cl).trans ?_
      have hl : ∀ y : A_l13, y.j = 0 → y.len = y.n → y.n ≤ 1000 → c_l13 y = true := fun y h1 h2 h3 => c_l13_iff.2 ⟨h1, h2, h3⟩
      have hn := paR_n x
      rw [hl _ rfl rfl (by show (paR x).n ≤ 1000; omega), br_true]
      show br (decide (x.k < 1)) _ (br (decide (x.k > 4)) _ (br (x.k == 1) (br (x.cl != 0) _ (br (otB x.k x) _ (ckA v x))) (br (otB x.k x) _ (ckA v x)))) = _
      have hE : (ckBad x || otB x.k x) = true → some [D.v (i64 8)] = some [D.v (i64 (ckE v x))] := fun h => by unfold ckE; rw [h]; rfl
      by_cases h1 : ckBad x = true
      · have hE' := hE (by rw [h1]; rfl)
        rw [← hE']
        unfold ckBad at h1
        cases c1 : decide (x.k < 1)
        · rw [c1] at h1
          cases c2 : decide (x.k > 4)
          · rw [c2, Bool.false_or, Bool.false_or, Bool.and_eq_true] at h1
            rw [h1.1, h1.2]; rfl
          · rfl
        · rfl
      · have h1 : ckBad x = false := by simpa using h1
        have h1' := h1
        unfold ckBad at h1'
        simp only [Bool.or_eq_false_iff] at h1'
        rw [h1'.1, h1'.2.1, br_false, br_false]
        have hmid : br (otB x.k x) (some [D.v (i64 8)]) (ckA v x) = some [D.v (i64 (ckE v x))] := by
          cases c3 : otB x.k x
          · rw [br_false]; exact ckA_eq v x h1 c3 hc
          · exact hE (by rw [h1, c3]; rfl)
        cases c2 : x.k == 1
        · exact hmid
        · have h3 := h1'.2.2
          rw [c2, Bool.true_and] at h3
          rw [br_true, h3, br_false]
          exact hmid
    · cases h
  · cases h
end Go.Proofs.YtlfeobdfgmlmpaaGreatDoor
/- What arguments that are rows look like in memory. No conditions. -/
namespace Go.Proofs.YtlfeobdfgmlmpaaGreatDoor
open Go.Ev Go.RowKit Go.Lib
set_option linter.all false
theorem mem_later {mem : List (Option Blk)} {ρ : Ev.Map} {B B' : Nat} {w w' : World} (hall : ∀ (id : Nat) (b : Blk), mem[id]? = some (some b) → ∃ ks r, b = .row ks false r) (h : MemR mem ρ B w) (hb : Below w.heap.size w w') : MemR mem ρ B' w' := by
  refine ⟨fun id b hm => ?_, h.dead, h.inj⟩
  obtain ⟨L, hL, hr⟩ := h.blk id b hm
  refine ⟨L, hL, ?_⟩
  obtain ⟨ks, r, rfl⟩ := hall id b hm
  obtain ⟨h1, h2, h3, h4, h5⟩ := hr
  refine ⟨h1, h2, fun h => (by cases h), fun hn => ?_, h5⟩
  obtain ⟨h6, h7⟩ := h4 hn
  have hok : ∀ b, Ev.okB mem ρ w b → Ev.okB mem ρ w' b ∧ w'.heap[b]? = w.heap[b]? := fun b hb' => ⟨⟨Nat.lt_of_lt_of_le hb'.1 hb.size, hb'.2⟩, hb.block b hb'.1⟩
  exact ⟨fun _ => (hok _ (h6 rfl)).1, h7.mono hok (hok _ (h6 rfl)).2⟩
/-- A row that came as an argument: where it lies, and its cells. -/
theorem row_arg {mem : List (Option Blk)} {ρ : Ev.Map} {B N id : Nat} {w : World} {ks : List CK} {r : Row} {y : Value} (hm : MemR mem ρ B w) (hid : mem[id]? = some (some (.row ks false r))) (hy : V ρ N (.slice (some ⟨id, 0, some 0⟩) r.n 0) y) :
    ∃ a cap b off, y = .slice a r.n cap ∧ (0 < r.n → a = some ⟨b, off, none⟩ ∧ b < w.heap.size) ∧ ∃ v : Nat → Nat → Value, (∀ e j k, e < r.n → ks[j]? = some k → w.cell? ⟨b, off + e * ks.length + j, none⟩ = some (v e j)) ∧ ∀ e j k, e < r.n → ks[j]? = some k → CellR (Ev.okB mem ρ w) w k r e j (v e j) := by
  obtain ⟨L, hL, hn, hz, _, hrd, _⟩ := hm.blk id _ hid
  cases hy with
  | sliceDead _ h2 => rw [hL] at h2; cases h2
  | @slice _ _ _ M a cap _ h2 h3 h4 h5 h6 =>
    have hML : M = L := by rw [hL] at h2; cases h2; rfl
    subst hML
    refine ⟨a, cap, M.b, M.off, rfl, fun h => ⟨?_, ((hrd h).1 rfl).1⟩, ?_⟩
    · rw [h5 h]
      show some (Loc.adr M 0 0) = _
      unfold Loc.adr
      rw [Nat.zero_mul, Nat.add_zero]
    · by_cases hpos : 0 < r.n
      · obtain ⟨_, hr⟩ := hrd hpos
        cases hr with
        | mk v g1 g2 => exact ⟨v, g1, g2⟩
      · exact ⟨fun _ _ => unk, fun e j k he => by omega, fun e j k he => by omega⟩
theorem int_cell {ok : Nat → Prop} {w : World} {k : IntKind} {r : Row} {e j : Nat} {y : Value} (h : CellR ok w (.int k) r e j y) : y = .int k (r.I e j) := by cases h; rfl
/-- A cell that holds a slice of numbers. -/
theorem sl_cell {mem : List (Option Blk)} {ρ : Ev.Map} {w : World} {r : Row} {e j : Nat} {y : Value} (h : CellR (Ev.okB mem ρ w) w (.slice [.int .i64]) r e j y) :
    ∃ a cap b off, y = .slice a (r.R e j).n cap ∧ (0 < (r.R e j).n → a = some ⟨b, off, none⟩ ∧ b < w.heap.size) ∧ ∀ i, i < (r.R e j).n → w.cell? ⟨b, off + i, none⟩ = some (.int .i64 ((r.R e j).I i 0)) := by
  cases h with
  | @slice0 _ _ _ _ a cap h1 => exact ⟨a, cap, 0, 0, by rw [h1], fun h => by omega, fun i hi => by omega⟩
  | @slice _ _ _ _ b off n cap h1 h2 h3 h4 =>
    refine ⟨_, cap, b, off, by rw [h1], fun _ => ⟨rfl, h3.1⟩, fun i hi => ?_⟩
    cases h4 with
    | mk v g1 g2 =>
      have := g1 i 0 _ hi rfl
      rw [int_cell (g2 i 0 _ hi rfl)] at this
      rw [← this]
      show w.cell? _ = w.cell? ⟨b, off + i * 1 + 0, none⟩
      rw [Nat.mul_one, Nat.add_zero]
theorem arr15 {cs : Array Value} (h : cs.size = 15) : cs = #[cs.getD 0 unk, cs.getD 1 unk, cs.getD 2 unk, cs.getD 3 unk, cs.getD 4 unk, cs.getD 5 unk, cs.getD 6 unk, cs.getD 7 unk, cs.getD 8 unk, cs.getD 9 unk, cs.getD 10 unk, cs.getD 11 unk, cs.getD 12 unk, cs.getD 13 unk, cs.getD 14 unk] := by
  apply Array.ext (by rw [h]; rfl)
  intro i h1 h2
  have hi : i < 15 := by omega
  have h3 : cs[i] = cs.getD i unk := by rw [Array.getD_eq_getD_getElem?, Array.getElem?_eq_getElem h1]; rfl
  rw [h3]
  match i, hi with
  | 0, _ => rfl
  | 1, _ => rfl
  | 2, _ => rfl
  | 3, _ => rfl
  | 4, _ => rfl
  | 5, _ => rfl
  | 6, _ => rfl
  | 7, _ => rfl
  | 8, _ => rfl
  | 9, _ => rfl
  | 10, _ => rfl
  | 11, _ => rfl
  | 12, _ => rfl
  | 13, _ => rfl
  | 14, _ => rfl
def docV (x : Dc) : List Value := [.int .u8 x.k, .slice (some ⟨0, 0, some 0⟩) x.ca.n 0, .slice (some ⟨1, 0, some 0⟩) x.pi.n 0, .int .u8 x.pc, .slice (some ⟨2, 0, some 0⟩) x.wo.n 0, .slice (some ⟨3, 0, some 0⟩) x.gv.n 0, .slice (some ⟨4, 0, some 0⟩) x.aa.n 0, .slice (some ⟨5, 0, some 0⟩) x.fv.n 0, .int .i64 x.rr, .slice (some ⟨6, 0, some 0⟩) x.lr.n 0, .slice (some ⟨7, 0, some 0⟩) x.lp.n 0, .int .i64 x.ld, .slice (some ⟨8, 0, some 0⟩) x.ba.n 0, .slice (some ⟨9, 0, some 0⟩) x.pa.n 0, .int .u8 x.cl]
def docM (x : Dc) : List (Option Blk) := [some (.row ksC false x.ca), some (.row ksP false x.pi), some (.row ksW false x.wo), some (.row ksV false x.gv), some (.row ksI false x.aa), some (.row ksV false x.fv), some (.row ksI false x.lr), some (.row ksI false x.lp), some (.row ksI false x.ba), some (.row ks3 false x.pa)]
theorem doc_from (x : Dc) : fromDs false [x.D] [] = some ([.agg ⟨docV x⟩], docM x) := rfl
theorem docM_rows (x : Dc) : ∀ (id : Nat) (b : Blk), (docM x)[id]? = some (some b) → ∃ ks r, b = .row ks false r := fun id b h => by
  unfold docM at h
  match id, h with
  | 0, h => cases h; exact ⟨_, _, rfl⟩
  | 1, h => cases h; exact ⟨_, _, rfl⟩
  | 2, h => cases h; exact ⟨_, _, rfl⟩
  | 3, h => cases h; exact ⟨_, _, rfl⟩
  | 4, h => cases h; exact ⟨_, _, rfl⟩
  | 5, h => cases h; exact ⟨_, _, rfl⟩
  | 6, h => cases h; exact ⟨_, _, rfl⟩
  | 7, h => cases h; exact ⟨_, _, rfl⟩
  | 8, h => cases h; exact ⟨_, _, rfl⟩
  | 9, h => cases h; exact ⟨_, _, rfl⟩
  | n + 10, h => simp at h
theorem V_int {ρ : Ev.Map} {N : Nat} {k : IntKind} {n : Int} {y : Value} (h : V ρ N (.int k n) y) : y = .int k n := by cases h; rfl
theorem V_agg {ρ : Ev.Map} {N : Nat} {xs : List Value} {y : Value} (h : V ρ N (.agg ⟨xs⟩) y) : ∃ cs : Array Value, y = .agg cs ∧ xs.length = cs.size ∧ ∀ i x, xs[i]? = some x → V ρ N x (cs.getD i unk) := by
  cases h with
  | @agg _ ys h1 h2 =>
    refine ⟨ys, rfl, h1, fun i x hx => ?_⟩
    have hi : i < ys.size := by
      have := (List.getElem?_eq_some_iff.1 hx).1
      rw [← h1]; exact this
    have h3 : ys[i]? = some (ys.getD i unk) := by rw [Array.getD_eq_getD_getElem?, Array.getElem?_eq_getElem hi]; rfl
    exact h2 i x _ (by simpa using hx) h3
end Go.Proofs.YtlfeobdfgmlmpaaGreatDoor
/- Package print: Text: contract, for documents of goods and settlements. No conditions. -/
namespace Go.Proofs.YtlfeobdfgmlmpaaGreatDoor
open Go.Ev Go.RowKit Go.Lib
set_option linter.all false
set_option maxHeartbeats 2000000 in
set_option maxRecDepth 1000000 in
theorem err_walk (w : World) (c0 c1 c2 c3 c4 c5 c6 c7 c8 c9 c10 c11 c12 c13 c14 : Value) (ec : Int) (hec : ec ≠ 0)
    (hchk : ∀ w', Below w.heap.size w w' → Calls Tryz.prog 13 #[.agg #[c0, c1, c2, c3, c4, c5, c6, c7, c8, c9, c10, c11, c12, c13, c14]] w' fun e w'' => e = .returned (.int .i64 ec) ∧ Below w'.heap.size w' w'') :
    Calls Tryz.prog 38 #[.agg #[c0, c1, c2, c3, c4, c5, c6, c7, c8, c9, c10, c11, c12, c13, c14]] w fun e w' => e = .returned (.tuple #[.string ⟨#[]⟩, .int .i64 ec]) ∧ Below w.heap.size w w' := by
  go_enter Tryz.func38, Tryz.ntmps38
  go_wp2_with (first | (go_at_call 13; refine (hchk _ ?_).mono ?_))
  · exact (Below.refl _ w).alloc (Nat.le_refl _) _
  rintro e w1 ⟨rfl, hb1⟩
  have hec2 : (ec != 0) = true := by simpa using hec
  go_wp2
  go_ret2
  exact ⟨rfl, ((Below.refl _ w).alloc (Nat.le_refl _) _).trans (hb1.mono (Nat.le_of_lt (alloc_lt w _)))⟩
def xOf (r : Row) (e j : Nat) : Int := if e < r.n ∧ j < (r.R e 0).n then (r.R e 0).I j 0 else 0
def aOf (r : Row) (j : Nat) : Int := if j < r.n then r.I j 0 else 0
def pOf (r : Row) (e i : Nat) : Int := if e < r.n ∧ i < 3 then r.I e i else 0
/-- The text of a document of goods, or of a settlement. -/
def teX (x : Dc) : List UInt8 := bif x.k == 2 then goT (xOf x.gv) (fun e => (x.gv.R e 0).n) x.gv.n (aOf x.aa) x.aa.n (x.cl + x.pc) else seT (aOf x.ba) x.ba.n (pOf x.pa) x.pa.n (x.cl + x.pc)
abbrev GoodC (x : Dc) : Prop := x.k = 2 ∧ x.gv.n ≤ 1000 ∧ (∀ e, e < x.gv.n → (x.gv.R e 0).n ≤ 1000) ∧ (∀ e, e < x.gv.n → ∀ j, j < (x.gv.R e 0).n → iR ((x.gv.R e 0).I j 0) = true) ∧ x.aa.n ≤ 1000 ∧ (∀ j, j < x.aa.n → iR (x.aa.I j 0) = true) ∧ 0 ≤ x.pc ∧ x.pc ≤ 255 ∧ 0 ≤ x.cl ∧ x.cl ≤ 255
abbrev SettC (x : Dc) : Prop := x.k = 4 ∧ x.ba.n ≤ 1000 ∧ (∀ j, j < x.ba.n → iR (x.ba.I j 0) = true) ∧ x.pa.n ≤ 1000 ∧ (∀ e, e < x.pa.n → ∀ i, i < 3 → iR (x.pa.I e i) = true) ∧ 0 ≤ x.pc ∧ x.pc ≤ 255 ∧ 0 ≤ x.cl ∧ x.cl ≤ 255
def Ftx (v : Ck) : List D → Option (Bool × List D)
  | [d] => match asDoc d with
    | some x => some (ckC v x && (ckE v x != 0 || (decide (GoodC x) || decide (SettC x))), [.v (.string (txS (ckE v x) (teX x))), .v (i64 (txE (ckE v x) (teX x)))])
    | none => none
  | _ => none
theorem iR0 : iR 0 = true := by decide
set_option maxRecDepth 100000 in
theorem den_text {v : Ck} (hv : v.Ok) : DenW Tryz.prog Wd 38 (Ftx v) := by
  intro wb hwb ds rs hF w hbw args vs mem ρ hfrom hm hl hva
  unfold Ftx at hF
  split at hF
  · split at hF
    · rename_i x hx
      simp only [Option.some.injEq, Prod.mk.injEq] at hF
      obtain ⟨h0, rfl⟩ := hF
      rw [Bool.and_eq_true] at h0
      obtain ⟨hck, h0⟩ := h0
      rw [asDoc_eq hx, doc_from] at hfrom
      simp only [Option.some.injEq, Prod.mk.injEq] at hfrom
      obtain ⟨rfl, rfl⟩ := hfrom
      obtain ⟨c, rfl⟩ : ∃ c, args = [c] := List.length_eq_one_iff.1 hl.symm
      have hchk : ∀ w', Below w.heap.size w w' → Calls Tryz.prog 13 ⟨[c]⟩ w' fun e w'' => e = .returned (.int .i64 (ckE v x)) ∧ Below w'.heap.size w' w'' := fun w' hb => by
        refine (den_ckd hv wb hwb [x.D] [.v (i64 (ckE v x))] (by
          show some (ckC v x, [D.v (i64 (ckE v x))]) = _
          rw [hck]) w' (hbw.trans (hb.mono hbw.size)) [c] _ _ ρ (doc_from x) (mem_later (docM_rows x) hm hb) rfl hva).mono fun e w'' ⟨cv, he, hb', us, mem', ρ', hf, _, hcv⟩ => ?_
        have e2 : us = [i64 (ckE v x)] := by
          have : fromDs true [D.v (i64 (ckE v x))] [] = some ([i64 (ckE v x)], []) := rfl
          rw [this] at hf
          simp only [Option.some.injEq, Prod.mk.injEq] at hf
          exact hf.1.symm
        subst e2
        exact ⟨by rw [he, V_int (show V ρ' mem'.length (.int .i64 (ckE v x)) cv from hcv)], hb'⟩
      obtain ⟨cs, rfl, hcs, hcv⟩ := V_agg (hva 0 _ c rfl rfl)
      have hs : cs.size = 15 := hcs.symm
      have hout : ∀ (s : ByteArray) (n : Int), ∀ e w', (e = Ending.returned (.tuple #[.string s, .int .i64 n]) ∧ Below w.heap.size w w') → s = txS (ckE v x) (teX x) → n = txE (ckE v x) (teX x) →
          ∃ cv, e = .returned cv ∧ Below w.heap.size w w' ∧ ∃ us mem' ρ', fromDs true [D.v (.string (txS (ckE v x) (teX x))), D.v (i64 (txE (ckE v x) (teX x)))] [] = some (us, mem') ∧ MemR mem' ρ' w.heap.size w' ∧ V ρ' mem'.length (tupV us) cv := fun s n e w' ⟨he, hb⟩ h1 h2 => by
        subst h1 h2
        refine ⟨_, he, hb, [.string _, i64 _], [], fun _ => none, rfl, mem_nil _ _, ?_⟩
        refine .tuple rfl fun j x y hx hy => ?_
        match j, hx, hy with
        | 0, hx, hy => simp at hx hy; subst hx hy; exact .str
        | 1, hx, hy => simp at hx hy; subst hx hy; exact .int
      have k0 := V_int (show V ρ (docM x).length (.int .u8 x.k) (cs.getD 0 unk) from hcv 0 _ rfl)
      have k3 := V_int (show V ρ (docM x).length (.int .u8 x.pc) (cs.getD 3 unk) from hcv 3 _ rfl)
      have k8 := V_int (show V ρ (docM x).length (.int .i64 x.rr) (cs.getD 8 unk) from hcv 8 _ rfl)
      have k11 := V_int (show V ρ (docM x).length (.int .i64 x.ld) (cs.getD 11 unk) from hcv 11 _ rfl)
      have k14 := V_int (show V ρ (docM x).length (.int .u8 x.cl) (cs.getD 14 unk) from hcv 14 _ rfl)
      have hWd : ∀ w', Below w.heap.size w w' → Wd w' := fun w' hb => hwb.later (hbw.trans (hb.mono hbw.size))
      rw [arr15 hs] at hchk ⊢
      rw [k0, k3, k8, k11, k14] at hchk ⊢
      by_cases hec : ckE v x = 0
      rotate_left
      · refine (err_walk w _ _ _ _ _ _ _ _ _ _ _ _ _ _ _ (ckE v x) hec hchk).mono fun e w' h => hout _ _ e w' h ?_ ?_
        · unfold txS; rw [show (ckE v x != 0) = true by simpa using hec]; rfl
        · unfold txE; rw [show (ckE v x != 0) = true by simpa using hec]; rfl
      · rw [show (ckE v x != 0) = false by simpa using hec, Bool.false_or, Bool.or_eq_true, decide_eq_true_eq, decide_eq_true_eq] at h0
        rcases h0 with h0 | h0
        · obtain ⟨g1, g2, g3, g4, g5, g6, g7, g8, g9, g10⟩ := h0
          obtain ⟨a5, p5, b5, o5, y5, l5, v5, q5, r5⟩ := row_arg (ks := ksV) (r := x.gv) hm rfl (hcv 5 _ rfl)
          obtain ⟨a6, p6, b6, o6, y6, l6, v6, q6, r6⟩ := row_arg (ks := ksI) (r := x.aa) hm rfl (hcv 6 _ rfl)
          rw [y5, y6] at hchk ⊢
          have hrow : ∀ e : Nat, ∃ f : Option Addr × Nat × Nat × Nat, e < x.gv.n → v5 e 0 = .slice f.1 (x.gv.R e 0).n f.2.1 ∧ (0 < (x.gv.R e 0).n → f.1 = some ⟨f.2.2.1, f.2.2.2, none⟩ ∧ f.2.2.1 < w.heap.size) ∧ ∀ i, i < (x.gv.R e 0).n → w.cell? ⟨f.2.2.1, f.2.2.2 + i, none⟩ = some (.int .i64 ((x.gv.R e 0).I i 0)) := fun e => by
            by_cases he : e < x.gv.n
            · obtain ⟨a, cap, b, off, e1, e2, e3⟩ := sl_cell (r5 e 0 _ he rfl)
              exact ⟨(a, cap, b, off), fun _ => ⟨e1, e2, e3⟩⟩
            · exact ⟨(none, 0, 0, 0), fun h => absurd h he⟩
          obtain ⟨f, hf⟩ := Classical.axiomOfChoice hrow
          rw [g1] at hchk ⊢
          have ht : teX x = goT (xOf x.gv) (fun e => (x.gv.R e 0).n) x.gv.n (aOf x.aa) x.aa.n (x.cl + x.pc) := by
            unfold teX
            rw [g1]; rfl
          refine (goods_walk w _ _ _ _ _ _ _ _ x.pc x.rr x.ld x.cl a5 a6 x.gv.n p5 x.aa.n p6 b5 o5 b6 o6 (fun e => (f e).1) (fun e => (f e).2.2.1) (fun e => (f e).2.2.2) (fun e => (x.gv.R e 0).n) (fun e => (f e).2.1) (xOf x.gv) (aOf x.aa) (ckE v x) hchk hWd
            (fun h => (l5 h).1) (fun h => (l5 h).2) (fun e he => ?_) (fun e he => (hf e he).2.1) (fun e he j hj => ?_) l6 (fun j hj => ?_) (fun e j => ?_) (fun j => ?_) (fun _ => ⟨g2, g3, g5⟩) (fun _ => ⟨g7, g8, g9, g10⟩)).mono fun e w' h => hout _ _ e w' h (by rw [ht]) (by rw [ht])
          · have := q5 e 0 _ he (show ksV[0]? = some _ from rfl)
            rw [(hf e he).1] at this
            rw [← this]
            show w.cell? _ = w.cell? ⟨b5, o5 + e * 1 + 0, none⟩
            rw [Nat.mul_one, Nat.add_zero]
          · rw [(hf e he).2.2 j hj]
            unfold xOf
            rw [if_pos ⟨he, hj⟩]
          · have := q6 j 0 _ hj (show ksI[0]? = some _ from rfl)
            rw [int_cell (r6 j 0 _ hj (show ksI[0]? = some _ from rfl))] at this
            unfold aOf
            rw [if_pos hj, ← this]
            show w.cell? _ = w.cell? ⟨b6, o6 + j * 1 + 0, none⟩
            rw [Nat.mul_one, Nat.add_zero]
          · unfold xOf
            split
            · rename_i h; exact g4 e h.1 j h.2
            · exact iR0
          · unfold aOf
            split
            · rename_i h; exact g6 j h
            · exact iR0
        · obtain ⟨g1, g2, g3, g4, g5, g7, g8, g9, g10⟩ := h0
          obtain ⟨a5, p5, b5, o5, y5, l5, v5, q5, r5⟩ := row_arg (ks := ks3) (r := x.pa) hm rfl (hcv 13 _ rfl)
          obtain ⟨a6, p6, b6, o6, y6, l6, v6, q6, r6⟩ := row_arg (ks := ksI) (r := x.ba) hm rfl (hcv 12 _ rfl)
          rw [y5, y6] at hchk ⊢
          rw [g1] at hchk ⊢
          have ht : teX x = seT (aOf x.ba) x.ba.n (pOf x.pa) x.pa.n (x.cl + x.pc) := by
            unfold teX
            rw [g1]; rfl
          refine (settle_walk w _ _ _ _ _ _ _ _ x.pc x.rr x.ld x.cl a5 a6 x.pa.n p5 x.ba.n p6 b5 o5 b6 o6 (pOf x.pa) (aOf x.ba) (ckE v x) hchk hWd
            (fun h => (l5 h).1) (fun h => (l5 h).2) (fun e he i hi => ?_) l6 (fun j hj => ?_) (fun e j => ?_) (fun j => ?_) (fun _ => ⟨g4, g2⟩) (fun _ => ⟨g7, g8, g9, g10⟩)).mono fun e w' h => hout _ _ e w' h (by rw [ht]) (by rw [ht])
          · unfold pOf
            rw [if_pos ⟨he, hi⟩]
            have hk3 : ks3[i]? = some (.int .i64) := by
              match i, hi with
              | 0, _ => rfl
              | 1, _ => rfl
              | 2, _ => rfl
            have := q5 e i _ he hk3
            rw [int_cell (r5 e i _ he hk3)] at this
            exact this
          · have := q6 j 0 _ hj (show ksI[0]? = some _ from rfl)
            rw [int_cell (r6 j 0 _ hj (show ksI[0]? = some _ from rfl))] at this
            unfold aOf
            rw [if_pos hj, ← this]
            show w.cell? _ = w.cell? ⟨b6, o6 + j * 1 + 0, none⟩
            rw [Nat.mul_one, Nat.add_zero]
          · unfold pOf
            split
            · rename_i h; exact g5 e h.1 j h.2
            · exact iR0
          · unfold aOf
            split
            · rename_i h; exact g3 j h
            · exact iR0
    · cases hF
  · cases hF
end Go.Proofs.YtlfeobdfgmlmpaaGreatDoor
/- alive: contract. No conditions. -/
namespace Go.Proofs.YtlfeobdfgmlmpaaGreatDoor
open Go.Ev Go.Lib
set_option linter.all false
def goX (r a : Row) : Dc := ⟨bif valE r a != 0 then 0 else 2, .nil, .nil, 0, .nil, bif valE r a != 0 then .nil else win0 (twR r), bif valE r a != 0 then .nil else cpy a, .nil, 0, .nil, .nil, 0, .nil, .nil, bif valE r a != 0 then 0 else goC r a⟩
theorem goX_D (r a : Row) : goD r a = (goX r a).D := by
  unfold goD goX Dc.D
  cases valE r a != 0 <;> rfl
def FgoV (gc : Row → Row → Bool) (gX : Row → Row → Dc) (gE : Row → Row → Int) : List D → Option (Bool × List D)
  | [.agg [.slice [.slice [.int .i64]] r], .slice [.int .i64] a] => some (gc r a, [(gX r a).D, .v (i64 (gE r a))])
  | _ => none
theorem den_goV : Den Tryz.prog 6 (FgoV (fun r a => decide (r.n ≤ 1000000 ∧ a.n ≤ 1000000)) goX valE) := den_goods.less fun ds rs h => by
  unfold FgoV at h
  split at h
  · rename_i r a
    rw [← goX_D] at h
    exact h
  · cases h
def FteV (tc : Dc → Bool) (tS : Dc → ByteArray) (tE : Dc → Int) : List D → Option (Bool × List D)
  | [d] => match asDoc d with
    | some x => some (tc x, [.v (.string (tS x)), .v (i64 (tE x))])
    | none => none
  | _ => none
def FseV (sc : Row → Bool) (sR : Row → Row) (sE : Row → Int) : List D → Option (Bool × List D)
  | [.slice [.int .i64] b] => some (sc b, [.slice [.int .i64, .int .i64, .int .i64] (sR b), .v (i64 (sE b))])
  | _ => none
noncomputable def CA (sc : Row → Bool) (sR : Row → Row) (sE : Row → Int) (gc : Row → Row → Bool) (gX : Row → Row → Dc) (gE : Row → Row → Int) (tc : Dc → Bool) (tS : Dc → ByteArray) (tE : Dc → Int) : Cx := mkCx Tryz.prog fns [(37, FseV sc sR sE), (6, FgoV gc gX gE), (38, FteV tc tS tE)] []
def bB : Row := winOf (((Row.zeros 2).setI 0 0 5).setI 1 0 (-5)) 0 2
def gG : Row := winOf (((Row.zeros 2).setR 0 0 (winOf (((Row.zeros 2).setI 0 0 3).setI 1 0 1) 0 2)).setR 1 0 (winOf (((Row.zeros 2).setI 0 0 2).setI 1 0 2) 0 2)) 0 2
def aA : Row := winOf (((Row.zeros 2).setI 0 0 0).setI 1 0 1) 0 2
def sSettled : ByteArray := ⟨⟨[100, 111, 99, 117, 109, 101, 110, 116, 32, 115, 101, 116, 116, 108, 101, 10, 98, 97, 108, 97, 110, 99, 101, 115, 32, 53, 32, 45, 53, 10, 112, 97, 121, 32, 48, 32, 49, 32, 53, 10, 99, 108, 97, 105, 109, 115, 32, 51, 10]⟩⟩
def sGiven : ByteArray := ⟨⟨[100, 111, 99, 117, 109, 101, 110, 116, 32, 103, 111, 111, 100, 115, 10, 118, 97, 108, 117, 101, 115, 32, 51, 32, 49, 10, 118, 97, 108, 117, 101, 115, 32, 50, 32, 50, 10, 103, 105, 118, 101, 32, 48, 32, 49, 10, 99, 108, 97, 105, 109, 115, 32, 51, 49, 10]⟩⟩
/-- A document as it is handed on. -/
def wD (x : Dc) : Dc := ⟨x.k, win0 x.ca, win0 x.pi, x.pc, win0 x.wo, win0 x.gv, win0 x.aa, win0 x.fv, x.rr, win0 x.lr, win0 x.lp, x.ld, win0 x.ba, win0 x.pa, x.cl⟩
def dZ : Dc := ⟨0, .nil, .nil, 0, .nil, .nil, .nil, .nil, 0, .nil, .nil, 0, .nil, .nil, 0⟩
def dS (p : Row) : Dc := ⟨4, .nil, .nil, 0, .nil, .nil, .nil, .nil, 0, .nil, .nil, 0, winOf (Row.nil.app bB) 0 2, win0 p, 3⟩
def fF : Option (List D) := some [.v (.bool false)]
def alT (gc : Row → Row → Bool) (gX : Row → Row → Dc) (gE : Row → Row → Int) (tc : Dc → Bool) (tS : Dc → ByteArray) (tE : Dc → Int) : Option (List D) :=
  br (tc (wD (gX gG aA))) (br (gE gG aA == 0) (br (tE (wD (gX gG aA)) == 0) (some [.v (.bool ((tS (wD (gX gG aA))).toList == sGiven.toList))]) fF) fF) none
theorem u4 (sc : Row → Bool) (sR : Row → Row) (sE : Row → Int) (gc : Row → Row → Bool) (gX : Row → Row → Dc) (gE : Row → Row → Int) (tc : Dc → Bool) (tS : Dc → ByteArray) (tE : Dc → Int) : evF (CA sc sR sE gc gX gE tc tS tE) 6 4 [] =
    br (sc bB) (br (sE bB != 0) (br (gc gG aA) (br (tc dZ) (br (sE bB == 0) (br (tE dZ == 0) (br ((tS dZ).toList == sSettled.toList) (alT gc gX gE tc tS tE) fF) fF) fF) none) none)
      (br (gc gG aA) (br (tc (dS (sR bB))) (br (tE (dS (sR bB)) == 0) (br ((tS (dS (sR bB))).toList == sSettled.toList) (alT gc gX gE tc tS tE) fF) fF) none) none)) none := by kernel_rfl
/-- What the layers say, so far as it is needed here. -/
def vG : Ck := ⟨fun _ _ => false, fun _ _ => false, fun _ _ => false, fun _ _ => 0, fun _ _ => false, fun _ _ => 0, fun _ _ _ _ _ => false, fun _ _ _ _ _ => 0, Ld.gpC, Ld.gpR, Ld.ckE, Ld.Lg.chk⟩
theorem vG_ok : vG.Ok where
  sq := fun wb hwb ds rs h => by
    unfold FSq at h
    split at h
    · simp [vG] at h
    · cases h
  pc := fun wb hwb ds rs h => by
    unfold FPc at h
    split at h
    · simp [vG] at h
    · cases h
  rc := fun wb hwb ds rs h => by
    unfold FRc at h
    split at h
    · simp [vG] at h
    · cases h
  rv := fun wb hwb ds rs h => by
    unfold FRv at h
    split at h
    · simp [vG] at h
    · cases h
  gu := (Ld.den_groups.mono (fun w h => h.tz)).less fun ds rs h => by
    unfold FGu at h
    split at h
    · exact h
    · cases h
  lc := (Ld.Lg.den7.at _).less fun ds rs h => by
    unfold FLc at h
    split at h
    · exact h
    · cases h
theorem den_seV : DenW Tryz.prog Wd 37 (FseV Ld.Se.stC Ld.Se.stR Ld.ckE) := (Ld.Se.den_settle.mono (fun w h => h.tz)).less fun ds rs h => by
  unfold FseV at h
  split at h
  · exact h
  · cases h
def tcG (x : Dc) : Bool := ckC vG x && (ckE vG x != 0 || (decide (GoodC x) || decide (SettC x)))
def tsG (x : Dc) : ByteArray := txS (ckE vG x) (teX x)
def teG (x : Dc) : Int := txE (ckE vG x) (teX x)
theorem den_teV : DenW Tryz.prog Wd 38 (FteV tcG tsG teG) := (den_text vG_ok).less fun ds rs h => by
  unfold FteV at h
  split at h
  · exact h
  · cases h
def gcG (r a : Row) : Bool := decide (r.n ≤ 1000000 ∧ a.n ≤ 1000000)
theorem CA_ok : CxW (CA Ld.Se.stC Ld.Se.stR Ld.ckE gcG goX valE tcG tsG teG) Wd := mkCx_okW enter mixed (fun p h => by
  simp only [List.mem_cons, List.not_mem_nil, or_false] at h
  rcases h with rfl | rfl | rfl
  · exact den_seV
  · exact den_goV.at _
  · exact den_teV) (fun l h => by cases h)
theorem br_t {α : Type} {c : Bool} {x y r : Option α} (h : c = true) (hx : x = r) : br c x y = r := by rw [h]; exact hx
theorem br_f {α : Type} {c : Bool} {x y r : Option α} (h : c = false) (hx : y = r) : br c x y = r := by rw [h]; exact hx
theorem al1 : Ld.Se.stC bB = true := by kernel_rfl
theorem al2 : (Ld.ckE bB != 0) = false := by kernel_rfl
theorem al3 : gcG gG aA = true := by kernel_rfl
theorem al4 : tcG (dS (Ld.Se.stR bB)) = true := by kernel_rfl
theorem al5 : (teG (dS (Ld.Se.stR bB)) == 0) = true := by kernel_rfl
theorem al6 : ((tsG (dS (Ld.Se.stR bB))).toList == sSettled.toList) = true := by kernel_rfl
theorem al7 : tcG (wD (goX gG aA)) = true := by kernel_rfl
theorem al8 : (valE gG aA == 0) = true := by kernel_rfl
theorem al9 : (teG (wD (goX gG aA)) == 0) = true := by kernel_rfl
theorem al10 : ((tsG (wD (goX gG aA))).toList == sGiven.toList) = true := by kernel_rfl
def Fal : List D → Option (Bool × List D)
  | [] => some (true, [.v (.bool true)])
  | _ => none
theorem den_alive : DenW Tryz.prog Wd 4 Fal := evF_denW CA_ok fun ds rs h => by
  unfold Fal at h
  split at h
  · cases h
    exact (u4 ..).trans (br_t al1 (br_f al2 (br_t al3 (br_t al4 (br_t al5 (br_t al6 (br_t al7 (br_t al8 (br_t al9 (congrArg (fun b => some [D.v (.bool b)]) al10))))))))))
  · cases h
end Go.Proofs.YtlfeobdfgmlmpaaGreatDoor
/- The law PrintGoods. No conditions. -/
namespace Go.Proofs.YtlfeobdfgmlmpaaGreatDoor
open Go.Ev Go.Lib
set_option linter.all false
def FgrV (g : Row → Row → Bool) : List D → Option (Bool × List D)
  | [.agg [.slice [.slice [.int .i64]] r], .slice [.int .i64] a] => some (true, [.v (.bool (g r a))])
  | _ => none
def Fc1V (c : Row → Bool) (e : Row → Int) : List D → Option (Bool × List D)
  | [.agg [.slice [.slice [.int .i64]] r]] => some (c r, [.v (i64 (e r))])
  | _ => none
def Fc2V (c : Row → Row → Bool) (e : Row → Row → Int) : List D → Option (Bool × List D)
  | [.agg [.slice [.slice [.int .i64]] r], .slice [.int .i64] a] => some (c r a, [.v (i64 (e r a))])
  | _ => none
def FrV (ks : List CK) (c : Row → Row → Bool) (o : Row → Row → Row) (e : Row → Row → Int) : List D → Option (Bool × List D)
  | [.agg [.slice [.slice [.int .i64]] r], .slice [.int .i64] a] => some (c r a, [.slice ks (o r a), .v (i64 (e r a))])
  | _ => none
def Fr2V (c : Row → Row → Bool) (o p : Row → Row → Row) (e : Row → Row → Int) : List D → Option (Bool × List D)
  | [.agg [.slice [.slice [.int .i64]] r], .slice [.int .i64] a] => some (c r a, [.slice [.int .i64, .int .i64, .int .i64] (o r a), .slice [.int .i64, .int .i64] (p r a), .v (i64 (e r a))])
  | _ => none
def FdcV (c : Dc → Bool) (e : Dc → Int) : List D → Option (Bool × List D)
  | [d] => match asDoc d with
    | some x => some (c x, [.v (i64 (e x))])
    | none => none
  | _ => none
def FslV (c : Row → Row → Bool) (e : Row → Row → Bool) : List D → Option (Bool × List D)
  | [.slice [.slice [.int .i64]] r, .slice [.slice [.int .i64]] a] => some (c r a, [.v (.bool (e r a))])
  | _ => none
def FsiV (c : Row → Row → Bool) (e : Row → Row → Bool) : List D → Option (Bool × List D)
  | [.slice [.int .i64] r, .slice [.int .i64] a] => some (c r a, [.v (.bool (e r a))])
  | _ => none
def FcoV (c : Row → Bool) (e : Row → Bool) : List D → Option (Bool × List D)
  | [.slice [.int .i64] a] => some (c a, [.v (.bool (e a))])
  | _ => none
noncomputable def CL (gr : Row → Row → Bool) (c2 : Row → Row → Bool) (gX : Row → Row → Dc) (vE : Row → Row → Int) (c1 : Row → Bool) (ck : Row → Int) (eO pO mO kO yO : Row → Row → Row) (cc : Dc → Bool) (cE : Dc → Int) (slc slB sic siB : Row → Row → Bool) (coc coB : Row → Bool) : Cx := mkCx Tryz.prog fns [(4, Fal), (5, FgrV gr), (6, FgoV c2 gX vE), (7, Fc1V c1 ck), (8, Fc2V c2 vE), (9, FrV [.int .i64, .int .i64] c2 eO vE), (10, FrV [.int .i64] c2 pO vE), (11, Fr2V c2 mO kO vE), (12, FrV [.int .i64, .int .i64, .int .i64] c2 yO vE), (13, FdcV cc cE), (14, FslV slc slB), (15, FsiV sic siB), (16, FcoV coc coB)] []
theorem u3 (gr : Row → Row → Bool) (c2 : Row → Row → Bool) (gX : Row → Row → Dc) (vE : Row → Row → Int) (c1 : Row → Bool) (ck : Row → Int) (eO pO mO kO yO : Row → Row → Row) (cc : Dc → Bool) (cE : Dc → Int) (slc slB sic siB : Row → Row → Bool) (coc coB : Row → Bool) (r a : Row) : evF (CL gr c2 gX vE c1 ck eO pO mO kO yO cc cE slc slB sic siB coc coB) 6 3 [.agg [.slice ksV r], .slice ksI a] =
    br (gr (winOf r 0 r.n) (winOf a 0 a.n)) (some [.v (.bool (true))]) (br (c2 (winOf r 0 r.n) (winOf a 0 a.n)) (br (c1 (winOf r 0 r.n)) (br (ck (winOf r 0 r.n) != 0) (br (vE (winOf r 0 r.n) (winOf a 0 a.n) != 0) (br (c1 (winOf r 0 r.n)) (br (vE (winOf r 0 r.n) (winOf a 0 a.n) == ck (winOf r 0 r.n)) (some [.v (.bool (true))]) (br (c2 (winOf r 0 r.n) (winOf a 0 a.n)) (some [.v (.bool (vE (winOf r 0 r.n) (winOf a 0 a.n) == vE (winOf r 0 r.n) (winOf a 0 a.n)))]) (none))) (none)) (some [.v (.bool (false))])) (br (c2 (winOf r 0 r.n) (winOf a 0 a.n)) (br (vE (winOf r 0 r.n) (winOf a 0 a.n) != 0) (br (vE (winOf r 0 r.n) (winOf a 0 a.n) != 0) (br (c1 (winOf r 0 r.n)) (br (vE (winOf r 0 r.n) (winOf a 0 a.n) == ck (winOf r 0 r.n)) (some [.v (.bool (true))]) (br (c2 (winOf r 0 r.n) (winOf a 0 a.n)) (some [.v (.bool (vE (winOf r 0 r.n) (winOf a 0 a.n) == vE (winOf r 0 r.n) (winOf a 0 a.n)))]) (none))) (none)) (some [.v (.bool (false))])) (br (c2 (winOf r 0 r.n) (winOf a 0 a.n)) (br (c2 (winOf r 0 r.n) (winOf a 0 a.n)) (br (c2 (winOf r 0 r.n) (winOf a 0 a.n)) (br (c2 (winOf r 0 r.n) (winOf a 0 a.n)) (br (vE (winOf r 0 r.n) (winOf a 0 a.n) != 0) (some [.v (.bool (false))]) (br (vE (winOf r 0 r.n) (winOf a 0 a.n) != 0) (some [.v (.bool (false))]) (br (vE (winOf r 0 r.n) (winOf a 0 a.n) != 0) (some [.v (.bool (false))]) (br (vE (winOf r 0 r.n) (winOf a 0 a.n) != 0) (some [.v (.bool (false))]) (br (vE (winOf r 0 r.n) (winOf a 0 a.n) != 0) (some [.v (.bool (false))]) (br (cc { k := (gX (winOf r 0 r.n) (winOf a 0 a.n)).k, ca := winOf (gX (winOf r 0 r.n) (winOf a 0 a.n)).ca 0 (gX (winOf r 0 r.n) (winOf a 0 a.n)).ca.n, pi := winOf (gX (winOf r 0 r.n) (winOf a 0 a.n)).pi 0 (gX (winOf r 0 r.n) (winOf a 0 a.n)).pi.n, pc := (gX (winOf r 0 r.n) (winOf a 0 a.n)).pc, wo := winOf (gX (winOf r 0 r.n) (winOf a 0 a.n)).wo 0 (gX (winOf r 0 r.n) (winOf a 0 a.n)).wo.n, gv := winOf (gX (winOf r 0 r.n) (winOf a 0 a.n)).gv 0 (gX (winOf r 0 r.n) (winOf a 0 a.n)).gv.n, aa := winOf (gX (winOf r 0 r.n) (winOf a 0 a.n)).aa 0 (gX (winOf r 0 r.n) (winOf a 0 a.n)).aa.n, fv := winOf (gX (winOf r 0 r.n) (winOf a 0 a.n)).fv 0 (gX (winOf r 0 r.n) (winOf a 0 a.n)).fv.n, rr := (gX (winOf r 0 r.n) (winOf a 0 a.n)).rr, lr := winOf (gX (winOf r 0 r.n) (winOf a 0 a.n)).lr 0 (gX (winOf r 0 r.n) (winOf a 0 a.n)).lr.n, lp := winOf (gX (winOf r 0 r.n) (winOf a 0 a.n)).lp 0 (gX (winOf r 0 r.n) (winOf a 0 a.n)).lp.n, ld := (gX (winOf r 0 r.n) (winOf a 0 a.n)).ld, ba := winOf (gX (winOf r 0 r.n) (winOf a 0 a.n)).ba 0 (gX (winOf r 0 r.n) (winOf a 0 a.n)).ba.n, pa := winOf (gX (winOf r 0 r.n) (winOf a 0 a.n)).pa 0 (gX (winOf r 0 r.n) (winOf a 0 a.n)).pa.n, cl := (gX (winOf r 0 r.n) (winOf a 0 a.n)).cl : Dc }) (br (cE { k := (gX (winOf r 0 r.n) (winOf a 0 a.n)).k, ca := winOf (gX (winOf r 0 r.n) (winOf a 0 a.n)).ca 0 (gX (winOf r 0 r.n) (winOf a 0 a.n)).ca.n, pi := winOf (gX (winOf r 0 r.n) (winOf a 0 a.n)).pi 0 (gX (winOf r 0 r.n) (winOf a 0 a.n)).pi.n, pc := (gX (winOf r 0 r.n) (winOf a 0 a.n)).pc, wo := winOf (gX (winOf r 0 r.n) (winOf a 0 a.n)).wo 0 (gX (winOf r 0 r.n) (winOf a 0 a.n)).wo.n, gv := winOf (gX (winOf r 0 r.n) (winOf a 0 a.n)).gv 0 (gX (winOf r 0 r.n) (winOf a 0 a.n)).gv.n, aa := winOf (gX (winOf r 0 r.n) (winOf a 0 a.n)).aa 0 (gX (winOf r 0 r.n) (winOf a 0 a.n)).aa.n, fv := winOf (gX (winOf r 0 r.n) (winOf a 0 a.n)).fv 0 (gX (winOf r 0 r.n) (winOf a 0 a.n)).fv.n, rr := (gX (winOf r 0 r.n) (winOf a 0 a.n)).rr, lr := winOf (gX (winOf r 0 r.n) (winOf a 0 a.n)).lr 0 (gX (winOf r 0 r.n) (winOf a 0 a.n)).lr.n, lp := winOf (gX (winOf r 0 r.n) (winOf a 0 a.n)).lp 0 (gX (winOf r 0 r.n) (winOf a 0 a.n)).lp.n, ld := (gX (winOf r 0 r.n) (winOf a 0 a.n)).ld, ba := winOf (gX (winOf r 0 r.n) (winOf a 0 a.n)).ba 0 (gX (winOf r 0 r.n) (winOf a 0 a.n)).ba.n, pa := winOf (gX (winOf r 0 r.n) (winOf a 0 a.n)).pa 0 (gX (winOf r 0 r.n) (winOf a 0 a.n)).pa.n, cl := (gX (winOf r 0 r.n) (winOf a 0 a.n)).cl : Dc } != 0) (some [.v (.bool (false))]) (br ((gX (winOf r 0 r.n) (winOf a 0 a.n)).k != 2) (some [.v (.bool (false))]) (br (slc (winOf (gX (winOf r 0 r.n) (winOf a 0 a.n)).gv 0 (gX (winOf r 0 r.n) (winOf a 0 a.n)).gv.n) (winOf r 0 r.n)) (br (!slB (winOf (gX (winOf r 0 r.n) (winOf a 0 a.n)).gv 0 (gX (winOf r 0 r.n) (winOf a 0 a.n)).gv.n) (winOf r 0 r.n)) (some [.v (.bool (false))]) (br (sic (winOf (gX (winOf r 0 r.n) (winOf a 0 a.n)).aa 0 (gX (winOf r 0 r.n) (winOf a 0 a.n)).aa.n) (winOf a 0 a.n)) (br (!siB (winOf (gX (winOf r 0 r.n) (winOf a 0 a.n)).aa 0 (gX (winOf r 0 r.n) (winOf a 0 a.n)).aa.n) (winOf a 0 a.n)) (some [.v (.bool (false))]) (br (coc (winOf a 0 a.n)) (br ((IntKind.u8.wrap (↑(BitVec.ofInt 8 (gX (winOf r 0 r.n) (winOf a 0 a.n)).cl &&& BitVec.ofInt 8 1).toNat : Int) != 0) == coB (winOf a 0 a.n)) (br ((IntKind.u8.wrap (↑(BitVec.ofInt 8 (gX (winOf r 0 r.n) (winOf a 0 a.n)).cl &&& BitVec.ofInt 8 2).toNat : Int) != 0) == ((↑(eO (winOf r 0 r.n) (winOf a 0 a.n)).n : Int) == 0)) (br ((IntKind.u8.wrap (↑(BitVec.ofInt 8 (gX (winOf r 0 r.n) (winOf a 0 a.n)).cl &&& BitVec.ofInt 8 4).toNat : Int) != 0) == ((↑(pO (winOf r 0 r.n) (winOf a 0 a.n)).n : Int) == 0)) (br ((IntKind.u8.wrap (↑(BitVec.ofInt 8 (gX (winOf r 0 r.n) (winOf a 0 a.n)).cl &&& BitVec.ofInt 8 8).toNat : Int) != 0) == ((↑(kO (winOf r 0 r.n) (winOf a 0 a.n)).n : Int) == 0)) (some [.v (.bool ((IntKind.u8.wrap (↑(BitVec.ofInt 8 (gX (winOf r 0 r.n) (winOf a 0 a.n)).cl &&& BitVec.ofInt 8 16).toNat : Int) != 0) == ((↑(yO (winOf r 0 r.n) (winOf a 0 a.n)).n : Int) == 0)))]) (some [.v (.bool (false))])) (some [.v (.bool (false))])) (some [.v (.bool (false))])) (some [.v (.bool (false))])) (none))) (none))) (none)))) (none))))))) (none)) (none)) (none)) (none))) (none))) (none)) (none)) := by kernel_rfl
theorem chk_ok {r : Row} (h1 : 1 ≤ r.n) (h2 : r.n ≤ 6) (h3 : ∀ i, i < r.n → (r.R i 0).n = (r.R 0 0).n ∧ (r.R i 0).n ≤ 10 ∧ ∀ k, k < (r.R i 0).n → 0 ≤ (r.R i 0).I k 0 ∧ (r.R i 0).I k 0 ≤ 1000) : chkE r = 0 := by
  unfold chkE
  have e1 : rowsBig r = false := anyF_false.2 fun i _ hi => decide_eq_false (by have := (h3 i (by omega)).2.1; omega)
  have e2 : anyF (badRow r) r.n 0 = false := anyF_false.2 fun i _ hi => by
    have h := h3 i (by omega)
    unfold badRow
    rw [Bool.or_eq_false_iff]
    refine ⟨by rw [h.1]; simp, anyF_false.2 fun k _ hk => ?_⟩
    have := h.2.2 k (by omega)
    simp only [oddB, Bool.or_eq_false_iff, decide_eq_false_iff_not]
    omega
  rw [e1, e2, decide_eq_false (show ¬ (r.n : Int) > 6 by omega), show ((r.n : Int) == 0) = false by simp; omega]
  rfl
theorem val_ok {r a : Row} (h1 : chkE r = 0) (h2 : a.n = (r.R 0 0).n) (h3 : ∀ k, k < a.n → -1 ≤ a.I k 0 ∧ a.I k 0 < (r.n : Int)) : valE r a = 0 := by
  unfold valE
  have e1 : winB (-1) r.n a = true := by
    unfold winB
    rw [Bool.not_eq_true', anyF_false]
    intro k _ hk
    have := h3 k (by omega)
    simp only [outB2, Bool.or_eq_false_iff, decide_eq_false_iff_not]
    omega
  rw [h1, e1, h2]
  simp
theorem clW_eq {r a : Row} (h : valE r a = 0) : clW a = bif !anyF (fun j => decide (a.I j 0 < 0)) a.n 0 then 1 else 0 := by
  obtain ⟨_, _, h3⟩ := val_zero h
  have key : ∀ (m j : Nat) (c : Int), j + m = a.n → fldN (fun j c => bif a.I j 0 == -1 then 0 else c) m j c = bif !anyF (fun j => decide (a.I j 0 < 0)) m j then c else 0 := by
    intro m
    induction m with
    | zero => intro j c _; rfl
    | succ m ih =>
      intro j c hj
      show fldN _ m (j + 1) (bif a.I j 0 == -1 then 0 else c) = _
      rw [ih (j + 1) _ (by omega)]
      rw [show anyF (fun j => decide (a.I j 0 < 0)) (m + 1) j = (decide (a.I j 0 < 0) || anyF (fun j => decide (a.I j 0 < 0)) m (j + 1)) from rfl]
      generalize anyF (fun j => decide (a.I j 0 < 0)) m (j + 1) = q
      have := h3 j (by omega)
      by_cases hn : a.I j 0 = -1
      · rw [hn, show decide ((-1 : Int) < 0) = true by decide]
        cases q <;> rfl
      · rw [show (a.I j 0 == -1) = false by simpa using hn, decide_eq_false (show ¬ a.I j 0 < 0 by omega)]
        rfl
  exact key a.n 0 1 (by omega)
theorem clI_bits (e p o m w : Bool) : (IntKind.u8.wrap (((BitVec.ofInt 8 (clI e p o m (bif w then 1 else 0)) &&& BitVec.ofInt 8 1).toNat : Nat) : Int) != 0) = w ∧ (IntKind.u8.wrap (((BitVec.ofInt 8 (clI e p o m (bif w then 1 else 0)) &&& BitVec.ofInt 8 2).toNat : Nat) : Int) != 0) = e ∧ (IntKind.u8.wrap (((BitVec.ofInt 8 (clI e p o m (bif w then 1 else 0)) &&& BitVec.ofInt 8 4).toNat : Nat) : Int) != 0) = p ∧
    (IntKind.u8.wrap (((BitVec.ofInt 8 (clI e p o m (bif w then 1 else 0)) &&& BitVec.ofInt 8 8).toNat : Nat) : Int) != 0) = o ∧ (IntKind.u8.wrap (((BitVec.ofInt 8 (clI e p o m (bif w then 1 else 0)) &&& BitVec.ofInt 8 16).toNat : Nat) : Int) != 0) = m ∧ clI e p o m (bif w then 1 else 0) ≤ 31 := by
  cases e <;> cases p <;> cases o <;> cases m <;> cases w <;> decide +kernel
theorem samI_refl {r s : Row} (h1 : r.n = s.n) (h2 : ∀ j, j < r.n → r.I j 0 = s.I j 0) : samI r s = true := by
  unfold samI
  rw [h1, Bool.and_eq_true]
  refine ⟨beq_self_eq_true _, ?_⟩
  rw [Bool.not_eq_true', anyF_false]
  intro j _ hj
  rw [h2 j (by omega)]
  simp
noncomputable def CLg : Cx := CL greB gcG goX valE (fun r => decide (r.n ≤ 1000000)) chkE envR pooR onM onK anyR (ckC vG) (ckE vG) (fun r _ => decide (r.n ≤ 1000000 ∧ ∀ i, i < r.n → (r.R i 0).n ≤ 1000000)) samL (fun r _ => decide (r.n ≤ 1000000)) samI (fun r => decide (r.n ≤ 1000000)) (fun r => !anyF (fun j => decide (r.I j 0 < 0)) r.n 0)
theorem CLg_ok : CxW CLg Wd := by
  unfold CLg CL
  exact mkCx_okW enter mixed (fun p h => by
  simp only [List.mem_cons, List.not_mem_nil, or_false] at h
  rcases h with rfl | rfl | rfl | rfl | rfl | rfl | rfl | rfl | rfl | rfl | rfl | rfl | rfl
  · exact den_alive
  · exact (den_gre.less fun ds rs h => by
      replace h : FgrV _ ds = some (true, rs) := h
      unfold FgrV at h
      split at h
      · simp only [Option.some.injEq, Prod.mk.injEq, true_and] at h
        subst h
        show some (decide _, _) = _
        rw [decide_eq_true rfl]
      · cases h).at _
  · exact den_goV.at _
  · exact (den_chk.less fun ds rs h => by
      replace h : Fc1V _ _ ds = some (true, rs) := h
      unfold Fc1V at h
      split at h
      · exact h
      · cases h).at _
  · exact (den_val.less fun ds rs h => by
      replace h : Fc2V _ _ ds = some (true, rs) := h
      unfold Fc2V at h
      split at h
      · exact h
      · cases h).at _
  · exact (den_env.less fun ds rs h => by
      replace h : FrV _ _ _ _ ds = some (true, rs) := h
      unfold FrV at h
      split at h
      · exact h
      · cases h).at _
  · exact (den_poor.less fun ds rs h => by
      replace h : FrV _ _ _ _ ds = some (true, rs) := h
      unfold FrV at h
      split at h
      · exact h
      · cases h).at _
  · exact (den_one.less fun ds rs h => by
      replace h : Fr2V _ _ _ _ ds = some (true, rs) := h
      unfold Fr2V at h
      split at h
      · exact h
      · cases h).at _
  · exact (den_any.less fun ds rs h => by
      replace h : FrV _ _ _ _ ds = some (true, rs) := h
      unfold FrV at h
      split at h
      · exact h
      · cases h).at _
  · exact (den_ckd vG_ok).less fun ds rs h => by
      replace h : FdcV _ _ ds = some (true, rs) := h
      unfold FdcV at h
      split at h
      · exact h
      · cases h
  · exact (den_samL.less fun ds rs h => by
      replace h : FslV _ _ ds = some (true, rs) := h
      unfold FslV at h
      split at h
      · exact h
      · cases h).at _
  · exact (den_sam.less fun ds rs h => by
      replace h : FsiV _ _ ds = some (true, rs) := h
      unfold FsiV at h
      split at h
      · exact h
      · cases h).at _
  · exact (den_com.less fun ds rs h => by
      replace h : FcoV _ _ ds = some (true, rs) := h
      unfold FcoV at h
      split at h
      · exact h
      · cases h).at _) (fun l h => by cases h)
/-- The document that is made is a valid one. -/
theorem ck_made {r a : Row} (h : valE r a = 0) : ckC vG (wD (goX r a)) = true ∧ ckE vG (wD (goX r a)) = 0 := by
  obtain ⟨h1, h2, h3⟩ := val_zero h
  obtain ⟨h4, h5, h6⟩ := chk_zero h1
  obtain ⟨t1, t2⟩ := tw_spec r
  have hX : goX r a = ⟨2, .nil, .nil, 0, .nil, win0 (twR r), cpy a, .nil, 0, .nil, .nil, 0, .nil, .nil, goC r a⟩ := by unfold goX; rw [h]; rfl
  rw [hX]
  have e1 : ckBad (wD ⟨2, .nil, .nil, 0, .nil, win0 (twR r), cpy a, .nil, 0, .nil, .nil, 0, .nil, .nil, goC r a⟩) = false := rfl
  have e2 : otB 2 (wD ⟨2, .nil, .nil, 0, .nil, win0 (twR r), cpy a, .nil, 0, .nil, .nil, 0, .nil, .nil, goC r a⟩) = false := by
    rw [otB_eq]
    show (false || ((_ && false) || (false || (false || false)))) = false
    rw [Bool.and_false]; rfl
  have g1 : chkE (win0 (win0 (twR r))) = 0 := chk_ok (by show 1 ≤ (twR r).n; omega) (by show (twR r).n ≤ 6; omega) (fun i hi => by
    replace hi : i < r.n := by rw [← t1]; exact hi
    have := h6 i hi
    show ((twR r).R i 0).n = ((twR r).R 0 0).n ∧ ((twR r).R i 0).n ≤ 10 ∧ ∀ k, k < ((twR r).R i 0).n → 0 ≤ ((twR r).R i 0).I k 0 ∧ ((twR r).R i 0).I k 0 ≤ 1000
    rw [t2 i hi, t2 0 (by omega), cpy_n, cpy_n]
    exact this)
  have g2 : valE (win0 (win0 (twR r))) (win0 (cpy a)) = 0 := val_ok g1 (by show (cpy a).n = ((twR r).R 0 0).n; rw [cpy_n, t2 0 (by omega), cpy_n, h2]) (fun k hk => by
    replace hk : k < a.n := by rw [← cpy_n a]; exact hk
    have := h3 k hk
    show -1 ≤ a.I k 0 ∧ a.I k 0 < ((twR r).n : Int)
    rw [t1]; exact this)
  have hcl : goC r a ≤ 31 := by
    unfold goC
    rw [clW_eq h]
    exact (clI_bits _ _ _ _ _).2.2.2.2.2
  constructor
  · unfold ckC
    rw [e1]
    show (false || (otB 2 _ || decide ((win0 (win0 (twR r))).n ≤ 1000000 ∧ (win0 (cpy a)).n ≤ 1000000))) = true
    rw [e2, decide_eq_true (show (win0 (win0 (twR r))).n ≤ 1000000 ∧ (win0 (cpy a)).n ≤ 1000000 from ⟨by show (twR r).n ≤ _; omega, by show (cpy a).n ≤ _; rw [cpy_n]; have := (h6 0 (by omega)).2.1; omega⟩)]
    rfl
  · unfold ckE
    rw [e1]
    show (bif false || otB 2 _ then (8 : Int) else okE (two (chkE (win0 (win0 (twR r)))) (valE (win0 (win0 (twR r))) (win0 (cpy a)))) (decide (goC r a ≤ 31))) = 0
    rw [e2, g1, g2, decide_eq_true hcl]
    rfl
/-- What the law comes to. -/
def lwT (r a : Row) : Option (List D) :=
  br (greB r a) (some [.v (.bool true)]) (br (gcG r a) (br (decide (r.n ≤ 1000000)) (br (chkE r != 0) (br (valE r a != 0) (br (decide (r.n ≤ 1000000)) (br (valE r a == chkE r) (some [.v (.bool true)]) (br (gcG r a) (some [.v (.bool (valE r a == valE r a))]) none)) none) fF)
    (br (gcG r a) (br (valE r a != 0) (br (valE r a != 0) (br (decide (r.n ≤ 1000000)) (br (valE r a == chkE r) (some [.v (.bool true)]) (br (gcG r a) (some [.v (.bool (valE r a == valE r a))]) none)) none) fF)
      (br (gcG r a) (br (gcG r a) (br (gcG r a) (br (gcG r a) (br (valE r a != 0) fF (br (valE r a != 0) fF (br (valE r a != 0) fF (br (valE r a != 0) fF (br (valE r a != 0) fF
        (br (ckC vG (wD (goX r a))) (br (ckE vG (wD (goX r a)) != 0) fF (br ((goX r a).k != 2) fF
          (br (decide ((win0 (goX r a).gv).n ≤ 1000000 ∧ ∀ i, i < (win0 (goX r a).gv).n → ((win0 (goX r a).gv).R i 0).n ≤ 1000000)) (br (!samL (win0 (goX r a).gv) r) fF
            (br (decide ((win0 (goX r a).aa).n ≤ 1000000)) (br (!samI (win0 (goX r a).aa) a) fF (br (decide (a.n ≤ 1000000))
              (br ((IntKind.u8.wrap (((BitVec.ofInt 8 (goX r a).cl &&& BitVec.ofInt 8 1).toNat : Nat) : Int) != 0) == !anyF (fun j => decide (a.I j 0 < 0)) a.n 0)
                (br ((IntKind.u8.wrap (((BitVec.ofInt 8 (goX r a).cl &&& BitVec.ofInt 8 2).toNat : Nat) : Int) != 0) == (((envR r a).n : Int) == 0))
                  (br ((IntKind.u8.wrap (((BitVec.ofInt 8 (goX r a).cl &&& BitVec.ofInt 8 4).toNat : Nat) : Int) != 0) == (((pooR r a).n : Int) == 0))
                    (br ((IntKind.u8.wrap (((BitVec.ofInt 8 (goX r a).cl &&& BitVec.ofInt 8 8).toNat : Nat) : Int) != 0) == (((onK r a).n : Int) == 0))
                      (some [.v (.bool ((IntKind.u8.wrap (((BitVec.ofInt 8 (goX r a).cl &&& BitVec.ofInt 8 16).toNat : Nat) : Int) != 0) == (((anyR r a).n : Int) == 0)))]) fF) fF) fF) fF) none)) none)) none))) none)))))) none) none) none) none)) none)) none) none)
theorem lwT_eq (r a : Row) : lwT r a = some [.v (.bool true)] := by
  unfold lwT
  cases hg : greB r a
  rotate_left
  · rfl
  unfold greB at hg
  simp only [Bool.or_eq_false_iff, decide_eq_false_iff_not] at hg
  have hgc : gcG r a = true := decide_eq_true ⟨by omega, by omega⟩
  rw [br_false, hgc, br_true, decide_eq_true (show r.n ≤ 1000000 by omega), br_true]
  cases hc : chkE r != 0
  rotate_left
  · have hv : valE r a = chkE r := by unfold valE; rw [hc]; rfl
    rw [br_true, hv, hc, br_true, br_true, show (chkE r == chkE r) = true by simp]
    rfl
  · rw [br_false, br_true]
    cases hv : valE r a != 0
    rotate_left
    · rw [br_true, br_true, br_true, br_true]
      cases valE r a == chkE r
      · rw [br_false, show (valE r a == valE r a) = true by simp]
      · rfl
    · have hv0 : valE r a = 0 := by simpa using hv
      obtain ⟨h1, h2, h3⟩ := val_zero hv0
      obtain ⟨h4, h5, h6⟩ := chk_zero h1
      obtain ⟨t1, t2⟩ := tw_spec r
      obtain ⟨m1, m2⟩ := ck_made hv0
      have hX : goX r a = ⟨2, .nil, .nil, 0, .nil, win0 (twR r), cpy a, .nil, 0, .nil, .nil, 0, .nil, .nil, goC r a⟩ := by unfold goX; rw [hv0]; rfl
      have ha : a.n ≤ 10 := by have := (h6 0 (by omega)).2.1; omega
      rw [br_false, br_true, br_true, br_true, br_true, br_false, br_false, br_false, br_false, br_false, m1, br_true, m2, hX]
      show br (decide ((win0 (win0 (twR r))).n ≤ 1000000 ∧ ∀ i, i < (win0 (win0 (twR r))).n → ((win0 (win0 (twR r))).R i 0).n ≤ 1000000)) (br (!samL (win0 (win0 (twR r))) r) fF (br (decide ((win0 (cpy a)).n ≤ 1000000)) (br (!samI (win0 (cpy a)) a) fF (br (decide (a.n ≤ 1000000)) _ none)) none)) none = _
      have s1 : samL (win0 (win0 (twR r))) r = true := by
        unfold samL
        show (((twR r).n : Int) == (r.n : Int) && !anyF (fun j => !samI ((twR r).R j 0) (r.R j 0)) (twR r).n 0) = true
        rw [t1, Bool.and_eq_true]
        refine ⟨beq_self_eq_true _, ?_⟩
        rw [Bool.not_eq_true', anyF_false]
        intro j _ hj
        rw [t2 j (by omega), samI_refl (cpy_n _) (fun k hk => cpy_I _ _ _)]
        rfl
      have s2 : samI (win0 (cpy a)) a = true := samI_refl (cpy_n a) (fun k hk => cpy_I _ _ _)
      rw [decide_eq_true (show (win0 (win0 (twR r))).n ≤ 1000000 ∧ ∀ i, i < (win0 (win0 (twR r))).n → ((win0 (win0 (twR r))).R i 0).n ≤ 1000000 from ⟨by show (twR r).n ≤ _; omega, fun i hi => by
        replace hi : i < r.n := by rw [← t1]; exact hi
        show ((twR r).R i 0).n ≤ _
        rw [t2 i hi, cpy_n]
        have := (h6 i hi).2.1; omega⟩), s1, decide_eq_true (show (win0 (cpy a)).n ≤ 1000000 by show (cpy a).n ≤ _; rw [cpy_n]; omega), s2, decide_eq_true (show a.n ≤ 1000000 by omega)]
      show br ((IntKind.u8.wrap (((BitVec.ofInt 8 (goC r a) &&& BitVec.ofInt 8 1).toNat : Nat) : Int) != 0) == !anyF (fun j => decide (a.I j 0 < 0)) a.n 0)
                (br ((IntKind.u8.wrap (((BitVec.ofInt 8 (goC r a) &&& BitVec.ofInt 8 2).toNat : Nat) : Int) != 0) == (((envR r a).n : Int) == 0))
                  (br ((IntKind.u8.wrap (((BitVec.ofInt 8 (goC r a) &&& BitVec.ofInt 8 4).toNat : Nat) : Int) != 0) == (((pooR r a).n : Int) == 0))
                    (br ((IntKind.u8.wrap (((BitVec.ofInt 8 (goC r a) &&& BitVec.ofInt 8 8).toNat : Nat) : Int) != 0) == (((onK r a).n : Int) == 0))
                      (some [D.v (.bool ((IntKind.u8.wrap (((BitVec.ofInt 8 (goC r a) &&& BitVec.ofInt 8 16).toNat : Nat) : Int) != 0) == (((anyR r a).n : Int) == 0)))]) fF) fF) fF) fF = _
      unfold goC
      rw [clW_eq hv0]
      obtain ⟨b1, b2, b3, b4, b5, _⟩ := clI_bits (((envR r a).n : Int) == 0) (((pooR r a).n : Int) == 0) (((onK r a).n : Int) == 0) (((anyR r a).n : Int) == 0) (!anyF (fun j => decide (a.I j 0 < 0)) a.n 0)
      rw [b1, b2, b3, b4, b5]
      simp only [beq_self_eq_true, br_true]
theorem law_goods (r a : Row) : evF CLg 6 3 [.agg [.slice ksV r], .slice ksI a] = some [.v (.bool true)] := by
  refine (u3 ..).trans ?_
  show lwT (win0 r) (win0 a) = _
  exact lwT_eq _ _
end Go.Proofs.YtlfeobdfgmlmpaaGreatDoor

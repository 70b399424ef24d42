/- Part of a proof of a statement of this seat. No conditions. -/
import Derived.Test.YtkcnkimndhgkgaaGreatDoorXan
set_option linter.all false
namespace Go.Proofs.YtkcnkimndhgkgaaGreatDoor
open Go.Ev Go.Lib Go.RowKit
set_option maxRecDepth 100000
set_option maxHeartbeats 2000000 in
set_option maxRecDepth 1000000 in
theorem err_walk(w:World)(c0 c1 c2 c3 c4 c5 c6 c7 c8 c9 c10 c11 c12 c13 c14:Value)(ec:Int)(hec:ec≠0)
  (hchk:∀w',Below w.heap.size w w'->Calls Tryz.prog 19 #[.agg #[c0,c1,c2,c3,c4,c5,c6,c7,c8,c9,c10,c11,c12,c13,c14]] w' fun e w''=>e=.returned (.int .i64 ec)∧Below w'.heap.size w' w''):
  Calls Tryz.prog 23 #[.agg #[c0,c1,c2,c3,c4,c5,c6,c7,c8,c9,c10,c11,c12,c13,c14]] w fun e w'=>e=.returned (.tuple #[.string ⟨#[]⟩,.int .i64 ec])∧Below w.heap.size w w':=by
 go_enter Tryz.func23,Tryz.ntmps23
 go_wp2_with (first|(go_at_call 19;refine(hchk _ ?_).mono ?_))
 ·exact(Below.refl _ w).alloc (AC _) _
 rintro e w1 ⟨rfl,hb1⟩;have hec2:(ec !=0)=true:=by simpa using hec
 go_wp2
 go_ret2
 exact⟨rfl,((Below.refl _ w).alloc (AC _) _).trans (hb1.mono (Nat.le_of_lt (alloc_lt w _)))⟩
def xOf(r:Row)(e j:Nat):Int:=if e<r.n∧j<(r.R e 0).n then(r.R e 0).I j 0 else 0
def aOf(r:Row)(j:Nat):Int:=if j<r.n then r.I j 0 else 0
def pOf(r:Row)(e i:Nat):Int:=if e<r.n∧i<3 then r.I e i else 0
theorem iR0:iR 0=true:=by decide
def xO(r:Row)(c e j:Nat):Int:=if e<r.n∧j<(r.R e c).n then(r.R e c).I j 0 else 0
def qO(r:Row)(e j:Nat):Int×Int:=if e<r.n∧j<(r.R e 0).n then((r.R e 0).I j 0,(r.R e 0).I j 1)else(0,0)
def sO(r:Row)(e i c:Nat):Int:=if e<r.n∧i<(r.R e 0).n∧c<4 then(r.R e 0).I i c else 0
def gdT(x:Dc):List UInt8:=goT (xOf x.gv) (fun e=>(x.gv.R e 0).n) x.gv.n (aOf x.aa) x.aa.n (x.cl+x.pc)
def stT(x:Dc):List UInt8:=seT (aOf x.ba) x.ba.n (pOf x.pa) x.pa.n (x.cl+x.pc)
def ckT(x:Dc):List UInt8:=caT x.ca.n x.pi.n x.wo.n (aOf x.ca) (fun e=>(x.ca.R e 1).n) (fun e=>(x.ca.R e 2).n) (xO x.ca 1) (xO x.ca 2) (fun e=>(x.pi.R e 0).n) (fun e=>(x.wo.R e 0).n) (sO x.pi) (qO x.wo) (x.cl+x.pc)
def rnT(x:Dc):List UInt8:=reT x.rr (xOf x.fv) (fun e=>(x.fv.R e 0).n) x.fv.n (aOf x.lr) x.lr.n x.ld (aOf x.lp) x.lp.n (x.cl+x.pc)
def teX(x:Dc):List UInt8:=bif x.k==2 then gdT x else bif x.k==1 then ckT x else bif x.k==3 then rnT x else stT x
abbrev ClC(x:Dc):Prop:=0<=x.pc∧x.pc<=255∧0<=x.cl∧x.cl<=255
abbrev GoodC(x:Dc):Prop:=x.k=2∧x.gv.n<=1000∧(∀e,e<x.gv.n->(x.gv.R e 0).n<=1000)∧(∀e,e<x.gv.n->∀j,j<(x.gv.R e 0).n->iR ((x.gv.R e 0).I j 0)=true)∧x.aa.n<=1000∧(∀j,j<x.aa.n->iR (x.aa.I j 0)=true)∧ClC x
abbrev SettC(x:Dc):Prop:=x.k=4∧x.ba.n<=1000∧(∀j,j<x.ba.n->iR (x.ba.I j 0)=true)∧x.pa.n<=1000∧(∀e,e<x.pa.n->∀i,i<3->iR (x.pa.I e i)=true)∧ClC x
abbrev CutC(r:Row):Prop:=r.n<=1000∧(∀e,e<r.n->0<(r.R e 1).n∧0<(r.R e 2).n∧(r.R e 1).n+(r.R e 2).n<=900∧iR (r.I e 0)=true)∧(∀e,e<r.n->∀j,j<(r.R e 1).n->iR ((r.R e 1).I j 0)=true)∧(∀e,e<r.n->∀j,j<(r.R e 2).n->iR ((r.R e 2).I j 0)=true)
abbrev NumC(m:Nat)(r:Row):Prop:=r.n<=1000∧(∀e,e<r.n->(r.R e 0).n<=900)∧(∀e,e<r.n->∀j,j<(r.R e 0).n->∀c,c<m->Rt.iR ((r.R e 0).I j c)=true)
abbrev CakeC(x:Dc):Prop:=x.k=1∧CutC x.ca∧NumC 4 x.pi∧NumC 2 x.wo∧ClC x
abbrev RentC(x:Dc):Prop:=x.k=3∧x.fv.n<=1000∧(∀e,e<x.fv.n->(x.fv.R e 0).n<=1000)∧(∀e,e<x.fv.n->∀j,j<(x.fv.R e 0).n->iR ((x.fv.R e 0).I j 0)=true)∧x.lr.n<=1000∧(∀j,j<x.lr.n->iR (x.lr.I j 0)=true)∧0<x.lp.n∧x.lp.n<=1000∧(∀j,j<x.lp.n->iR (x.lp.I j 0)=true)∧iR x.rr=true∧iR x.ld=true∧ClC x
def tePB(x:Dc):Bool:=decide (GoodC x)||(decide (SettC x)||(decide (CakeC x)||decide (RentC x)))
def Ftx(v:Ck):FD
 |[d]=>match asDoc d with
  |some x=>some (ckC v x&&(ckE v x !=0||tePB x),[.v (.string (txS (ckE v x) (teX x))),.v (i64 (txE (ckE v x) (teX x)))])
  |none=>none
 |_=>none
theorem sl_cellK{mem:List (Option Blk)}{ρ:Ev.Map}{w:World}{r:Row}{e j m:Nat}{y:Value}{ks:List CK}(hk:ks=List.replicate m (.int .i64))(h:CellR (Ev.okB mem ρ w) w (.slice ks) r e j y):
  ∃a cap b off,y=.slice a (r.R e j).n cap∧(0<(r.R e j).n->a=some ⟨b,off,none⟩∧b<w.heap.size)∧∀i,i<(r.R e j).n->∀c,c<m->w.cell? ⟨b,off+i*m+c,none⟩=some (.int .i64 ((r.R e j).I i c)):=by
 subst hk;cases h with
 |@slice0 _ _ _ _ a cap h1=>exact⟨a,cap,0,0,by rw[h1],fun h=>by omega,fun i hi=>by omega⟩
 |@slice _ _ _ _ b off n cap h1 h2 h3 h4=>
  refine⟨_,cap,b,off,by rw[h1],fun _=>⟨rfl,h3.1⟩,fun i hi c hc=>?_⟩;cases h4 with
  |mk v g1 g2=>
   have hk:(List.replicate m (CK.int .i64))[c]? =some (.int .i64):=by rw[List.getElem?_replicate,AM hc]
   have:=g1 i c _ hi hk;rw[int_cell (g2 i c _ hi hk)]at this;rw[<-this,List.length_replicate]
theorem rt0:Rt.iR 0=true:=by decide
theorem iQ0:iQ (0,0)=true:=by decide
set_option maxHeartbeats 1000000 in
theorem cake_from{x:Dc}{ρ:Ev.Map}{B:Nat}{w:World}{y1 y2 y4:Value}(hm:MemR (docM x) ρ B w)(h1:V ρ (docM x).length (S_ 0 0 x.ca.n) y1)(h2:V ρ (docM x).length (S_ 1 0 x.pi.n) y2)(h4:V ρ (docM x).length (S_ 2 0 x.wo.n) y4)(hC:CakeC x):
  ∃ca pa wa cc pcp wcp cb co pb po wb wo ub uo uc db dO dc sa va sb so sc vb vo vc,y1=.slice ca x.ca.n cc∧y2=.slice pa x.pi.n pcp∧y4=.slice wa x.wo.n wcp∧
   CakeF w w.heap.size ca pa wa x.ca.n cc x.pi.n pcp x.wo.n wcp cb co pb po wb wo (aOf x.ca) ub uo (fun e=>(x.ca.R e 1).n) uc db dO (fun e=>(x.ca.R e 2).n) dc (xO x.ca 1) (xO x.ca 2) sa va sb so (fun e=>(x.pi.R e 0).n) sc vb vo (fun e=>(x.wo.R e 0).n) vc (sO x.pi) (qO x.wo):=by
 obtain⟨-,⟨c1,c2,c3,c4⟩,⟨p1,p2,p3⟩,⟨o1,o2,o3⟩,-⟩:=hC;obtain⟨a1,n1,b1,f1,y1e,l1,v1,q1,r1⟩:=row_arg (ks:=ksC) (r:=x.ca) hm rfl h1;obtain⟨a2,n2,b2,f2,y2e,l2,v2,q2,r2⟩:=row_arg (ks:=ksP) (r:=x.pi) hm rfl h2;obtain⟨a4,n4,b4,f4,y4e,l4,v4,q4,r4⟩:=row_arg (ks:=ksW) (r:=x.wo) hm rfl h4;have hu:∀e:Nat,∃f:Option Addr×Nat×Nat×Nat,e<x.ca.n->v1 e 1=.slice f.1 (x.ca.R e 1).n f.2.1∧(0<(x.ca.R e 1).n->f.1=some ⟨f.2.2.1,f.2.2.2,none⟩∧f.2.2.1<w.heap.size)∧∀i,i<(x.ca.R e 1).n->∀c,c<1->w.cell? ⟨f.2.2.1,f.2.2.2+i*1+c,none⟩=some (.int .i64 ((x.ca.R e 1).I i c)):=fun e=>by
  by_cases he:e<x.ca.n
  ·obtain⟨a,cap,b,off,e1,e2,e3⟩:=sl_cellK (m:=1) rfl (r1 e 1 _ he rfl);exact⟨(a,cap,b,off),fun _=>⟨e1,e2,e3⟩⟩
  ·exact⟨(none,0,0,0),fun h=>absurd h he⟩
 have hd:∀e:Nat,∃f:Option Addr×Nat×Nat×Nat,e<x.ca.n->v1 e 2=.slice f.1 (x.ca.R e 2).n f.2.1∧(0<(x.ca.R e 2).n->f.1=some ⟨f.2.2.1,f.2.2.2,none⟩∧f.2.2.1<w.heap.size)∧∀i,i<(x.ca.R e 2).n->∀c,c<1->w.cell? ⟨f.2.2.1,f.2.2.2+i*1+c,none⟩=some (.int .i64 ((x.ca.R e 2).I i c)):=fun e=>by
  by_cases he:e<x.ca.n
  ·obtain⟨a,cap,b,off,e1,e2,e3⟩:=sl_cellK (m:=1) rfl (r1 e 2 _ he rfl);exact⟨(a,cap,b,off),fun _=>⟨e1,e2,e3⟩⟩
  ·exact⟨(none,0,0,0),fun h=>absurd h he⟩
 have hs:∀e:Nat,∃f:Option Addr×Nat×Nat×Nat,e<x.pi.n->v2 e 0=.slice f.1 (x.pi.R e 0).n f.2.1∧(0<(x.pi.R e 0).n->f.1=some ⟨f.2.2.1,f.2.2.2,none⟩∧f.2.2.1<w.heap.size)∧∀i,i<(x.pi.R e 0).n->∀c,c<4->w.cell? ⟨f.2.2.1,f.2.2.2+i*4+c,none⟩=some (.int .i64 ((x.pi.R e 0).I i c)):=fun e=>by
  by_cases he:e<x.pi.n
  ·obtain⟨a,cap,b,off,e1,e2,e3⟩:=sl_cellK (m:=4) rfl (r2 e 0 _ he rfl);exact⟨(a,cap,b,off),fun _=>⟨e1,e2,e3⟩⟩
  ·exact⟨(none,0,0,0),fun h=>absurd h he⟩
 have ho:∀e:Nat,∃f:Option Addr×Nat×Nat×Nat,e<x.wo.n->v4 e 0=.slice f.1 (x.wo.R e 0).n f.2.1∧(0<(x.wo.R e 0).n->f.1=some ⟨f.2.2.1,f.2.2.2,none⟩∧f.2.2.1<w.heap.size)∧∀i,i<(x.wo.R e 0).n->∀c,c<2->w.cell? ⟨f.2.2.1,f.2.2.2+i*2+c,none⟩=some (.int .i64 ((x.wo.R e 0).I i c)):=fun e=>by
  by_cases he:e<x.wo.n
  ·obtain⟨a,cap,b,off,e1,e2,e3⟩:=sl_cellK (m:=2) rfl (r4 e 0 _ he rfl);exact⟨(a,cap,b,off),fun _=>⟨e1,e2,e3⟩⟩
  ·exact⟨(none,0,0,0),fun h=>absurd h he⟩
 obtain⟨fu,hu⟩:=Classical.axiomOfChoice hu;obtain⟨fd,hd⟩:=Classical.axiomOfChoice hd;obtain⟨fs,hs⟩:=Classical.axiomOfChoice hs;obtain⟨fo,ho⟩:=Classical.axiomOfChoice ho;refine⟨a1,a2,a4,n1,n2,n4,b1,f1,b2,f2,b4,f4,fun e=>(fu e).2.2.1,fun e=>(fu e).2.2.2,fun e=>(fu e).2.1,fun e=>(fd e).2.2.1,fun e=>(fd e).2.2.2,fun e=>(fd e).2.1,fun e=>(fs e).1,fun e=>(fo e).1,fun e=>(fs e).2.2.1,fun e=>(fs e).2.2.2,fun e=>(fs e).2.1,fun e=>(fo e).2.2.1,fun e=>(fo e).2.2.2,fun e=>(fo e).2.1,y1e,y2e,y4e,?_⟩;exact{
  hca:=fun h=>(l1 h).1
  hcb:=fun h=>(l1 h).2
  hc:=fun e he=>by
   refine⟨?_,?_,?_⟩
   ·have:=q1 e 0 _ he (show ksC[0]? =some _ from rfl);rw[int_cell (r1 e 0 _ he (show ksC[0]? =some _ from rfl))]at this;unfold aOf;rw[AM he];exact this
   ·have:=q1 e 1 _ he (show ksC[1]? =some _ from rfl);rw[(hu e he).1]at this;rw[<-((hu e he).2.1 (c2 e he).1).1];exact this
   ·have:=q1 e 2 _ he (show ksC[2]? =some _ from rfl);rw[(hd e he).1]at this;rw[<-((hd e he).2.1 (c2 e he).2.1).1];exact this
  hu:=fun e he=>by
   obtain⟨z1,z2,z3,z4⟩:=c2 e he;refine⟨⟨z1,z3,((hu e he).2.1 z1).2,fun j hj=>?_⟩,z2,by omega,((hd e he).2.1 z2).2,fun j hj=>?_⟩
   ·have:=(hu e he).2.2 j hj 0 (by omega);rw[Nat.mul_one,Nat.add_zero]at this;unfold xO;rw[AM ⟨he,hj⟩];exact this
   ·have:=(hd e he).2.2 j hj 0 (by omega);rw[Nat.mul_one,Nat.add_zero]at this;unfold xO;rw[AM ⟨he,hj⟩];exact this
  hr1:=fun e=>by
   unfold aOf;split
   ·rename_i h;exact(c2 e h).2.2.2
   ·exact iR0
  hr2:=fun e j=>by
   unfold xO;split
   ·rename_i h;exact c3 e h.1 j h.2
   ·exact iR0
  hr3:=fun e j=>by
   unfold xO;split
   ·rename_i h;exact c4 e h.1 j h.2
   ·exact iR0
  hcn:=c1
  hpa:=l2
  hps:=fun e he=>by
   have:=q2 e 0 _ he (show ksP[0]? =some _ from rfl);rw[(hs e he).1]at this;rw[<-this];show w.cell? _=w.cell? ⟨b2,f2+e*1+0,none⟩;rw[Nat.mul_one,Nat.add_zero]
  hsa:=fun e he=>⟨p2 e he,(hs e he).2.1,fun i hi c hc=>by
   rw[(hs e he).2.2 i hi c hc];unfold sO;rw[AM ⟨he,hi,hc⟩]⟩
  hwa:=l4
  hws:=fun e he=>by
   have:=q4 e 0 _ he (show ksW[0]? =some _ from rfl);rw[(ho e he).1]at this;rw[<-this];show w.cell? _=w.cell? ⟨b4,f4+e*1+0,none⟩;rw[Nat.mul_one,Nat.add_zero]
  hva:=fun e he=>⟨o2 e he,(ho e he).2.1,fun j hj=>by
   have e0:=(ho e he).2.2 j hj 0 (by omega);have e1:=(ho e he).2.2 j hj 1 (by omega);unfold qO;rw[AM ⟨he,hj⟩];exact⟨e0,e1⟩⟩
  hr4:=fun e i c=>by
   unfold sO;split
   ·rename_i h;exact p3 e h.1 i h.2.1 c h.2.2
   ·exact rt0
  hr5:=fun e j=>by
   unfold qO;split
   ·rename_i h;show(Rt.iR _&&Rt.iR _)=true;rw[o3 e h.1 j h.2 0 (by omega),o3 e h.1 j h.2 1 (by omega)];rfl
   ·exact iQ0
  hpn:=p1
  hwn:=o1}
set_option maxHeartbeats 1000000 in
theorem rent_from{x:Dc}{ρ:Ev.Map}{B:Nat}{w:World}{y1 y2 y4:Value}(hm:MemR (docM x) ρ B w)(h1:V ρ (docM x).length (S_ 5 0 x.fv.n) y1)(h2:V ρ (docM x).length (S_ 6 0 x.lr.n) y2)(h4:V ρ (docM x).length (S_ 7 0 x.lp.n) y4)(hC:RentC x):
  ∃ga ra qa gc gb goff rc rb ro qc qb qo xa xb xo xc,y1=.slice ga x.fv.n gc∧y2=.slice ra x.lr.n rc∧y4=.slice qa x.lp.n qc∧
   RentF w w.heap.size ga ra qa x.fv.n gc gb goff x.lr.n rc rb ro x.lp.n qc qb qo xa xb xo (fun e=>(x.fv.R e 0).n) xc (xOf x.fv) (aOf x.lr) (aOf x.lp) x.rr x.ld:=by
 obtain⟨-,c1,c2,c3,c4,c5,c6,c7,c8,c9,c10,-⟩:=hC;obtain⟨a1,n1,b1,f1,y1e,l1,v1,q1,r1⟩:=row_arg (ks:=ksV) (r:=x.fv) hm rfl h1;obtain⟨a2,n2,b2,f2,y2e,l2,v2,q2,r2⟩:=row_arg (ks:=ksI) (r:=x.lr) hm rfl h2;obtain⟨a4,n4,b4,f4,y4e,l4,v4,q4,r4⟩:=row_arg (ks:=ksI) (r:=x.lp) hm rfl h4;have hs:∀e:Nat,∃f:Option Addr×Nat×Nat×Nat,e<x.fv.n->v1 e 0=.slice f.1 (x.fv.R e 0).n f.2.1∧(0<(x.fv.R e 0).n->f.1=some ⟨f.2.2.1,f.2.2.2,none⟩∧f.2.2.1<w.heap.size)∧∀i,i<(x.fv.R e 0).n->w.cell? ⟨f.2.2.1,f.2.2.2+i,none⟩=some (.int .i64 ((x.fv.R e 0).I i 0)):=fun e=>by
  by_cases he:e<x.fv.n
  ·obtain⟨a,cap,b,off,e1,e2,e3⟩:=sl_cell (r1 e 0 _ he rfl);exact⟨(a,cap,b,off),fun _=>⟨e1,e2,e3⟩⟩
  ·exact⟨(none,0,0,0),fun h=>absurd h he⟩
 obtain⟨fs,hs⟩:=Classical.axiomOfChoice hs;refine⟨a1,a2,a4,n1,b1,f1,n2,b2,f2,n4,b4,f4,fun e=>(fs e).1,fun e=>(fs e).2.2.1,fun e=>(fs e).2.2.2,fun e=>(fs e).2.1,y1e,y2e,y4e,?_⟩;exact{
  hga:=l1
  hg:=fun e he=>by
   have:=q1 e 0 _ he (show ksV[0]? =some _ from rfl);rw[(hs e he).1]at this;rw[<-this];show w.cell? _=w.cell? ⟨b1,f1+e*1+0,none⟩;rw[Nat.mul_one,Nat.add_zero]
  hx:=fun e he=>⟨c2 e he,(hs e he).2.1,fun j hj=>by
   rw[(hs e he).2.2 j hj];unfold xOf;rw[AM ⟨he,hj⟩]⟩
  hra:=l2
  hr:=fun j hj=>by
   have:=q2 j 0 _ hj (show ksI[0]? =some _ from rfl);rw[int_cell (r2 j 0 _ hj (show ksI[0]? =some _ from rfl))]at this;unfold aOf;rw[AM hj,<-this];show w.cell? _=w.cell? ⟨b2,f2+j*1+0,none⟩;rw[Nat.mul_one,Nat.add_zero]
  hqa:=⟨(l4 c6).1,(l4 c6).2,c6⟩
  hq:=fun j hj=>by
   have:=q4 j 0 _ hj (show ksI[0]? =some _ from rfl);rw[int_cell (r4 j 0 _ hj (show ksI[0]? =some _ from rfl))]at this;unfold aOf;rw[AM hj,<-this];show w.cell? _=w.cell? ⟨b4,f4+j*1+0,none⟩;rw[Nat.mul_one,Nat.add_zero]
  hX:=fun e j=>by
   unfold xOf;split
   ·rename_i h;exact c3 e h.1 j h.2
   ·exact iR0
  hR:=fun j=>by
   unfold aOf;split
   ·rename_i h;exact c5 j h
   ·exact iR0
  hQ:=fun j=>by
   unfold aOf;split
   ·rename_i h;exact c8 j h
   ·exact iR0
  hrr:=c9
  hld:=c10
  hgn:=c1
  hrn:=c4
  hqn:=c7}
theorem den_text{v:Ck}(hv:v.Ok):DenW Tryz.prog Wd 23 (Ftx v):=by
 intro wb hwb ds rs hF w hbw args vs mem ρ hfrom hm hl hva;unfold Ftx at hF;split at hF
 ·split at hF
  ·rename_i x hx;simp only[A5,A6]at hF;obtain⟨h0,rfl⟩:=hF;rw[A2]at h0;obtain⟨hck,h0⟩:=h0;rw[asDoc_eq hx,doc_from]at hfrom;simp only[A5,A6]at hfrom;obtain⟨rfl,rfl⟩:=hfrom;obtain⟨c,rfl⟩:∃c,args=[c]:=List.length_eq_one_iff.1 hl.symm;have hchk:∀w',Below w.heap.size w w'->Calls Tryz.prog 19 ⟨[c]⟩ w' fun e w''=>e=.returned (.int .i64 (ckE v x))∧Below w'.heap.size w' w'':=fun w' hb=>by
    refine(den_ckd hv wb hwb [x.D] [.v (i64 (ckE v x))] (by
     show some (ckC v x,[D.v (i64 (ckE v x))])=_;rw[hck]) w' (hbw.trans (hb.mono hbw.size)) [c] _ _ ρ (doc_from x) (mem_later (docM_rows x) hm hb) rfl hva).mono fun e w'' ⟨cv,he,hb',us,mem',ρ',hf,_,hcv⟩=>?_
    have e2:us=[i64 (ckE v x)]:=by
     have:fromDs true [D.v (i64 (ckE v x))] []=some ([i64 (ckE v x)],[]):=rfl;rw[this]at hf;simp only[A5,A6]at hf;exact hf.1.symm
    subst e2;exact⟨by rw[he,V_int (show V ρ' mem'.length (.int .i64 (ckE v x)) cv from hcv)],hb'⟩
   obtain⟨cs,rfl,hcs,hcv⟩:=V_agg (hva 0 _ c rfl rfl);have hs:cs.size=15:=hcs.symm;have hout:∀(s:ByteArray)(n:Int),∀e w',(e=Ending.returned (.tuple #[.string s,.int .i64 n])∧Below w.heap.size w w')->s=txS (ckE v x) (teX x)->n=txE (ckE v x) (teX x)->
     ∃cv,e=.returned cv∧Below w.heap.size w w'∧∃us mem' ρ',fromDs true [D.v (.string (txS (ckE v x) (teX x))),D.v (i64 (txE (ckE v x) (teX x)))] []=some (us,mem')∧MemR mem' ρ' w.heap.size w'∧V ρ' mem'.length (tupV us) cv:=fun s n e w' ⟨he,hb⟩ h1 h2=>by
    subst h1 h2;refine⟨_,he,hb,[.string _,i64 _],[],fun _=>none,rfl,mem_nil _ _,?_⟩;refine .tuple rfl fun j x y hx hy=>?_
    match j,hx,hy with
    |0,hx,hy=>simp at hx hy;subst hx hy;exact .str
    |1,hx,hy=>simp at hx hy;subst hx hy;exact .int
   have k0:=V_int (show V ρ (docM x).length (.int .u8 x.k) (cs.getD 0 unk)from hcv 0 _ rfl);have k3:=V_int (show V ρ (docM x).length (.int .u8 x.pc) (cs.getD 3 unk)from hcv 3 _ rfl);have k8:=V_int (show V ρ (docM x).length (.int .i64 x.rr) (cs.getD 8 unk)from hcv 8 _ rfl);have k11:=V_int (show V ρ (docM x).length (.int .i64 x.ld) (cs.getD 11 unk)from hcv 11 _ rfl);have k14:=V_int (show V ρ (docM x).length (.int .u8 x.cl) (cs.getD 14 unk)from hcv 14 _ rfl);have hWd:∀w',Below w.heap.size w w'->Wd w':=fun w' hb=>hwb.later (hbw.trans (hb.mono hbw.size));rw[arr15 hs]at hchk⊢;rw[k0,k3,k8,k11,k14]at hchk⊢;by_cases hec:ckE v x=0
   rotate_left
   ·refine(err_walk w _ _ _ _ _ _ _ _ _ _ _ _ _ _ _ (ckE v x) hec hchk).mono fun e w' h=>hout _ _ e w' h ?_ ?_
    ·unfold txS;rw[show(ckE v x !=0)=true by simpa using hec];rfl
    ·unfold txE;rw[show(ckE v x !=0)=true by simpa using hec];rfl
   ·rw[show(ckE v x !=0)=false by simpa using hec,Bool.false_or]at h0;unfold tePB at h0;simp only[Bool.or_eq_true,A3]at h0;rcases h0 with h0|h0|h0|h0
    ·obtain⟨g1,g2,g3,g4,g5,g6,g7⟩:=h0;obtain⟨a5,p5,b5,o5,y5,l5,v5,q5,r5⟩:=row_arg (ks:=ksV) (r:=x.gv) hm rfl (hcv 5 _ rfl);obtain⟨a6,p6,b6,o6,y6,l6,v6,q6,r6⟩:=row_arg (ks:=ksI) (r:=x.aa) hm rfl (hcv 6 _ rfl);rw[y5,y6]at hchk⊢;have hrow:∀e:Nat,∃f:Option Addr×Nat×Nat×Nat,e<x.gv.n->v5 e 0=.slice f.1 (x.gv.R e 0).n f.2.1∧(0<(x.gv.R e 0).n->f.1=some ⟨f.2.2.1,f.2.2.2,none⟩∧f.2.2.1<w.heap.size)∧∀i,i<(x.gv.R e 0).n->w.cell? ⟨f.2.2.1,f.2.2.2+i,none⟩=some (.int .i64 ((x.gv.R e 0).I i 0)):=fun e=>by
      by_cases he:e<x.gv.n
      ·obtain⟨a,cap,b,off,e1,e2,e3⟩:=sl_cell (r5 e 0 _ he rfl);exact⟨(a,cap,b,off),fun _=>⟨e1,e2,e3⟩⟩
      ·exact⟨(none,0,0,0),fun h=>absurd h he⟩
     obtain⟨f,hf⟩:=Classical.axiomOfChoice hrow;rw[g1]at hchk⊢;have ht:teX x=goT (xOf x.gv) (fun e=>(x.gv.R e 0).n) x.gv.n (aOf x.aa) x.aa.n (x.cl+x.pc):=by
      unfold teX;rw[g1];rfl
     refine(goods_walk w _ _ _ _ _ _ _ _ x.pc x.rr x.ld x.cl a5 a6 x.gv.n p5 x.aa.n p6 b5 o5 b6 o6 (fun e=>(f e).1) (fun e=>(f e).2.2.1) (fun e=>(f e).2.2.2) (fun e=>(x.gv.R e 0).n) (fun e=>(f e).2.1) (xOf x.gv) (aOf x.aa) (ckE v x) hchk hWd
      (fun h=>(l5 h).1) (fun h=>(l5 h).2) (fun e he=>?_) (fun e he=>(hf e he).2.1) (fun e he j hj=>?_) l6 (fun j hj=>?_) (fun e j=>?_) (fun j=>?_) (fun _=>⟨g2,g3,g5⟩) (fun _=>g7)).mono fun e w' h=>hout _ _ e w' h (by rw[ht]) (by rw[ht])
     ·have:=q5 e 0 _ he (show ksV[0]? =some _ from rfl);rw[(hf e he).1]at this;rw[<-this];show w.cell? _=w.cell? ⟨b5,o5+e*1+0,none⟩;rw[Nat.mul_one,Nat.add_zero]
     ·rw[(hf e he).2.2 j hj];unfold xOf;rw[AM ⟨he,hj⟩]
     ·have:=q6 j 0 _ hj (show ksI[0]? =some _ from rfl);rw[int_cell (r6 j 0 _ hj (show ksI[0]? =some _ from rfl))]at this;unfold aOf;rw[AM hj,<-this];show w.cell? _=w.cell? ⟨b6,o6+j*1+0,none⟩;rw[Nat.mul_one,Nat.add_zero]
     ·unfold xOf;split
      ·rename_i h;exact g4 e h.1 j h.2
      ·exact iR0
     ·unfold aOf;split
      ·rename_i h;exact g6 j h
      ·exact iR0
    ·obtain⟨g1,g2,g3,g4,g5,g7⟩:=h0;obtain⟨a5,p5,b5,o5,y5,l5,v5,q5,r5⟩:=row_arg (ks:=ks3) (r:=x.pa) hm rfl (hcv 13 _ rfl);obtain⟨a6,p6,b6,o6,y6,l6,v6,q6,r6⟩:=row_arg (ks:=ksI) (r:=x.ba) hm rfl (hcv 12 _ rfl);rw[y5,y6]at hchk⊢;rw[g1]at hchk⊢;have ht:teX x=seT (aOf x.ba) x.ba.n (pOf x.pa) x.pa.n (x.cl+x.pc):=by
      unfold teX;rw[g1];rfl
     refine(settle_walk w _ _ _ _ _ _ _ _ x.pc x.rr x.ld x.cl a5 a6 x.pa.n p5 x.ba.n p6 b5 o5 b6 o6 (pOf x.pa) (aOf x.ba) (ckE v x) hchk hWd
      (fun h=>(l5 h).1) (fun h=>(l5 h).2) (fun e he i hi=>?_) l6 (fun j hj=>?_) (fun e j=>?_) (fun j=>?_) (fun _=>⟨g4,g2⟩) (fun _=>g7)).mono fun e w' h=>hout _ _ e w' h (by rw[ht]) (by rw[ht])
     ·unfold pOf;rw[AM ⟨he,hi⟩];have hk3:ks3[i]? =some (.int .i64):=by
       match i,hi with
       |0,_=>rfl
       |1,_=>rfl
       |2,_=>rfl
      have:=q5 e i _ he hk3;rw[int_cell (r5 e i _ he hk3)]at this;exact this
     ·have:=q6 j 0 _ hj (show ksI[0]? =some _ from rfl);rw[int_cell (r6 j 0 _ hj (show ksI[0]? =some _ from rfl))]at this;unfold aOf;rw[AM hj,<-this];show w.cell? _=w.cell? ⟨b6,o6+j*1+0,none⟩;rw[Nat.mul_one,Nat.add_zero]
     ·unfold pOf;split
      ·rename_i h;exact g5 e h.1 j h.2
      ·exact iR0
     ·unfold aOf;split
      ·rename_i h;exact g3 j h
      ·exact iR0
    ·obtain⟨ca,pa,wa,cc,pcp,wcp,cb,co,pb,po,wb,wo,ub,uo,uc,db,dO,dc,sa,va,sb,so,sc,vb,vo,vc,y1,y2,y4,hCF⟩:=cake_from hm (hcv 1 _ rfl) (hcv 2 _ rfl) (hcv 4 _ rfl) h0;rw[y1,y2,y4]at hchk⊢;have ht:teX x=ckT x:=by
      unfold teX;rw[h0.1];rfl
     rw[h0.1]at hchk⊢;exact(cakeT_walk w _ _ _ _ _ _ _ x.pc x.rr x.ld x.cl ca pa wa x.ca.n cc x.pi.n pcp x.wo.n wcp cb co pb po wb wo (aOf x.ca) ub uo (fun e=>(x.ca.R e 1).n) uc db dO (fun e=>(x.ca.R e 2).n) dc (xO x.ca 1) (xO x.ca 2) sa va sb so (fun e=>(x.pi.R e 0).n) sc vb vo (fun e=>(x.wo.R e 0).n) vc (sO x.pi) (qO x.wo) (ckE v x) hchk hWd (fun _=>hCF) (fun _=>h0.2.2.2.2)).mono fun e w' h=>hout _ _ e w' h (by rw[ht];rfl) (by rw[ht];rfl)
    ·obtain⟨ga,ra,qa,gc,gb,goff,rc,rb,ro,qc,qb,qo,xa,xb,xo,xc,y1,y2,y4,hCF⟩:=rent_from hm (hcv 7 _ rfl) (hcv 9 _ rfl) (hcv 10 _ rfl) h0;rw[y1,y2,y4]at hchk⊢;have ht:teX x=rnT x:=by
      unfold teX;rw[h0.1];rfl
     rw[h0.1]at hchk⊢;exact(rentT_walk w _ _ _ _ _ _ _ x.pc x.rr x.ld x.cl ga ra qa x.fv.n gc gb goff x.lr.n rc rb ro x.lp.n qc qb qo xa xb xo (fun e=>(x.fv.R e 0).n) xc (xOf x.fv) (aOf x.lr) (aOf x.lp) (ckE v x) hchk hWd (fun _=>hCF) (fun _=>h0.2.2.2.2.2.2.2.2.2.2.2)).mono fun e w' h=>hout _ _ e w' h (by rw[ht];rfl) (by rw[ht];rfl)
  ·cases hF
 ·cases hF
end Go.Proofs.YtkcnkimndhgkgaaGreatDoor
namespace Go.Proofs.YtkcnkimndhgkgaaGreatDoor
open Go.Ev Go.Lib
set_option maxRecDepth 100000
def FteV(tc:Dc->Bool)(tS:Dc->ByteArray)(tE:Dc->Int):FD
 |[d]=>match asDoc d with
  |some x=>some (tc x,[.v (.string (tS x)),.v (i64 (tE x))])
  |none=>none
 |_=>none
noncomputable def CA(tc:Dc->Bool)(tS:Dc->ByteArray)(tE:Dc->Int):Cx:=mkCx Tryz.prog fns [(72,Fsum),(46,FGu Ld.gpC Ld.gpR Ld.ckE),(23,FteV tc tS tE)] []
def bB:Row:=winOf (((Row.zeros 2).setI 0 0 5).setI 1 0 (-5)) 0 2
def gG:Row:=winOf (((Row.zeros 2).setR 0 0 (winOf (((Row.zeros 2).setI 0 0 3).setI 1 0 1) 0 2)).setR 1 0 (winOf (((Row.zeros 2).setI 0 0 2).setI 1 0 2) 0 2)) 0 2
def aA:Row:=winOf (((Row.zeros 2).setI 0 0 0).setI 1 0 1) 0 2
def sSettled:ByteArray:=⟨⟨[100,111,99,117,109,101,110,116,32,115,101,116,116,108,101,10,98,97,108,97,110,99,101,115,32,53,32,45,53,10,112,97,121,32,48,32,49,32,53,10,99,108,97,105,109,115,32,51,10]⟩⟩
def sGiven:ByteArray:=⟨⟨[100,111,99,117,109,101,110,116,32,103,111,111,100,115,10,118,97,108,117,101,115,32,51,32,49,10,118,97,108,117,101,115,32,50,32,50,10,103,105,118,101,32,48,32,49,10,99,108,97,105,109,115,32,51,49,10]⟩⟩
def bB2:Row:=Row.nil.app (winOf bB 0 2)
def pS:Row:=winOf (Row.nil.app (winOf ((((Row.zeros 1).setI 0 0 0).setI 0 1 (IntKind.i64.wrap 1)).setI 0 2 (if IntKind.i64.wrap (0-bB2.I (0+(IntKind.i64.wrap 1).toNat) 0)<bB2.I (0+0) 0 then IntKind.i64.wrap (0-bB2.I 1 0)else bB2.I 0 0)) 0 1)) 0 1
def d1:Dc:=⟨4,.nil,.nil,0,.nil,.nil,.nil,.nil,0,.nil,.nil,0,winOf (Row.nil.app bB) 0 2,pS,3⟩
def gR1(i:Nat):Row:=winOf ((Row.zeros 1).setR 0 0 (winOf (Row.nil.app (winOf (gG.R i 0) 0 2)) 0 2)) 0 1
def d2:Dc:=⟨2,.nil,.nil,0,.nil,winOf ((winOf (Row.nil.app (gR1 0)) 0 1).app (gR1 1)) 0 2,winOf (Row.nil.app aA) 0 2,.nil,0,.nil,.nil,0,.nil,.nil,31⟩
def fF:OD:=some [.v (.bool false)]
theorem u4(tc:Dc->Bool)(tS:Dc->ByteArray)(tE:Dc->Int):evF (CA tc tS tE) 16 20 []=br (tc d1) (br (tE d1==0) (br ((tS d1).toList==sSettled.toList) (br (tc d2) (br (tE d2==0) (some [.v (.bool ((tS d2).toList==sGiven.toList))]) fF) none) fF) fF) none:=by kernel_rfl
theorem den_gu:DenW Tryz.prog Wd 46 (FGu Ld.gpC Ld.gpR Ld.ckE):=(Ld.den_groups.mono (fun w h=>h.tz)).less fun ds rs h=>by
 unfold FGu at h;split at h
 ·exact h
 ·cases h
def vB:Ck:=⟨sqC,sqB,proC,proE,rooC,rooE,rvlC (vluC (fun a _=>decide (a.n<=1000000))),rvlE (vluE asgB2),Ld.gpC,Ld.gpR,Ld.ckE,Ld.Lg.chk⟩
theorem vB_ok:vB.Ok where
 sq:=den_sq.at _
 pc:=den_pro.at _
 rc:=den_roo.at _
 rv:=den_rv.at _
 gu:=den_gu
 lc:=(Ld.Lg.den7.at _).less fun ds rs h=>by
  unfold FLc at h;split at h
  ·exact h
  ·cases h
def tcG(x:Dc):Bool:=ckC vB x&&(ckE vB x !=0||tePB x)
def tsG(x:Dc):ByteArray:=txS (ckE vB x) (teX x)
def teG(x:Dc):Int:=txE (ckE vB x) (teX x)
theorem den_teV:DenW Tryz.prog Wd 23 (FteV tcG tsG teG):=(den_text vB_ok).less fun ds rs h=>by
 unfold FteV at h;split at h
 ·exact h
 ·cases h
theorem CA_ok:CxW (CA tcG tsG teG) Wd:=mkCx_okW enter mixed (fun p h=>by
 simp only[A8,A7,or_false]at h;rcases h with rfl|rfl|rfl
 ·exact den_sum.at _
 ·exact den_gu
 ·exact den_teV) (fun l h=>by cases h)
theorem br_t{α:Type}{c:Bool}{x y r:Option α}(h:c=true)(hx:x=r):br c x y=r:=by rw[h];exact hx
theorem br_f{α:Type}{c:Bool}{x y r:Option α}(h:c=false)(hx:y=r):br c x y=r:=by rw[h];exact hx
theorem al4:tcG d1=true:=by kernel_rfl
theorem al5:(teG d1==0)=true:=by kernel_rfl
theorem al6:((tsG d1).toList==sSettled.toList)=true:=by kernel_rfl
theorem al7:tcG d2=true:=by kernel_rfl
theorem al9:(teG d2==0)=true:=by kernel_rfl
theorem al10:((tsG d2).toList==sGiven.toList)=true:=by kernel_rfl
def Fal:FD
 |[]=>some (true,[.v (.bool true)])
 |_=>none
theorem den_alive:DenW Tryz.prog Wd 20 Fal:=evF_denW CA_ok fun ds rs h=>by
 unfold Fal at h;split at h
 ·cases h;exact(u4 ..).trans (br_t al4 (br_t al5 (br_t al6 (br_t al7 (br_t al9 (congrArg (fun b=>some [D.v (.bool b)]) al10))))))
 ·cases h
open Go.RowKit
abbrev ksS:List CK:=[.str]
def psI(r:Row)(x:Int):Row:=(winOf r 0 r.n).app (winOf ((Row.zeros 1).setI 0 0 x) 0 1)
def psQ(r:Row)(x y:Int):Row:=(winOf r 0 r.n).app (winOf (((Row.zeros 1).setI 0 0 x).setI 0 1 y) 0 1)
abbrev szP(r:Row):Prop:=∀i,i<r.n->(r.S i 0).size<=4000000000
def p_lin:PSt:={τ:=pu 4++[.v (.sl 0)]++pu 4++[.v (.sl 1),.v (.int .i64),.v (.int .i64)]++pu 16,saved:=[[]],mem:=[.row [.int .i64] true,.row [.str] false]}
structure A_lin where
 on:Nat
 n:Nat
 len:Int
 j:Int
 o:Row
 r:Row
def d_lin(its:List It):Option A_lin:=match its with|[.n on,.n n,.i len,.i j,.r o,.r r]=>some ⟨on,n,len,j,o,r⟩|_=>none
def c_lin(x:A_lin):Bool:=x.j=0∧x.len=x.n∧x.on=x.o.n∧x.n<=1000000∧szP x.r∧x.r.n=x.n∧x.o.n=0
def c_lin_iff{x:A_lin}:=@ciff _ c_lin _ _ rfl x
def lin:RunL A_lin (Row):=⟨127,3,[4,9,10,11,1960004],[2,3,4],p_lin,d_lin,fun x j a=>[.n a.n,.n x.n,.i (x.n:Int),.i (j:Int),.r a,.r x.r],fun x=>x.n,c_lin,fun x=>x.o,fun x j a=>aiE (by_ (x.r.S j 0)),fun x j a=>psI a (aiN (by_ (x.r.S j 0))),fun x j a K=>K .ret ⟨us 2++[.slice none 0 0,.bool false,.slice (some ⟨0,0,some 0⟩) ((a.n)) 0]++us 23,[[]],[some (.row [.int .i64] true ((a)))]⟩,fun x a K=>K (.exit 0) ⟨us 4++[.slice (some ⟨0,0,some 0⟩) ((a.n)) 0]++us 23,[[]],[some (.row [.int .i64] true ((a)))]⟩⟩
def p_len:PSt:={τ:=pu 4++[.v (.sl 0)]++pu 4++[.v (.sl 1),.v (.int .i64),.v (.int .i64)]++pu 16,saved:=[[]],mem:=[.row [.int .i64,.int .i64] true,.row [.str] false]}
structure A_len where
 on:Nat
 n:Nat
 len:Int
 j:Int
 o:Row
 r:Row
def d_len(its:List It):Option A_len:=match its with|[.n on,.n n,.i len,.i j,.r o,.r r]=>some ⟨on,n,len,j,o,r⟩|_=>none
def c_len(x:A_len):Bool:=x.j=0∧x.len=x.n∧x.on=x.o.n∧x.n<=1000000∧szP x.r∧x.r.n=x.n∧x.o.n=0
def c_len_iff{x:A_len}:=@ciff _ c_len _ _ rfl x
def len:RunL A_len (Row):=⟨161,3,[4,9,10,11,31400004],[2,3,4],p_len,d_len,fun x j a=>[.n a.n,.n x.n,.i (x.n:Int),.i (j:Int),.r a,.r x.r],fun x=>x.n,c_len,fun x=>x.o,fun x j a=>Rt.rpE (by_ (x.r.S j 0)) !=0,fun x j a=>psQ a (Rt.rpN (by_ (x.r.S j 0))) (Rt.rpD (by_ (x.r.S j 0))),fun x j a K=>K .ret ⟨us 2++[.slice none 0 0,.bool false,.slice (some ⟨0,0,some 0⟩) ((a.n)) 0]++us 23,[[]],[some (.row [.int .i64,.int .i64] true ((a)))]⟩,fun x a K=>K (.exit 0) ⟨us 4++[.slice (some ⟨0,0,some 0⟩) ((a.n)) 0]++us 23,[[]],[some (.row [.int .i64,.int .i64] true ((a)))]⟩⟩
noncomputable def Cin:Cx:=mkCx Tryz.prog fns [(162,Fatoi)] [lin.C]
noncomputable def Cen:Cx:=mkCx Tryz.prog fns [(193,Rt.Fps)] [len.C]
theorem r_lin(R:St->OD)(K:X->St->OD)(q on n:Nat)(len j:Int)(o r:Row):bodyOf Cin 127 3 q (bst p_lin [.n on,.n n,.i len,.i j,.r o,.r r]) (rnd [4,9,10,11,1960004] (some [2,3,4]) R K)=br (j<len) (br (0<=j&&j<(n:Int)) (br ((r.S (0+j.toNat) 0).size<=4294967296) (br (aiE (by_ (r.S (0+j.toNat) 0))) (K .ret ⟨us 2++[.slice none 0 0,.bool false,S_ 0 0 on]++us 23,[[]],[some (.row [.int .i64] true o)]⟩) (br (on+(winOf ((Row.zeros 1).setI 0 0 (aiN (by_ (r.S (0+j.toNat) 0)))) 0 1).n<=10000000000) (R ⟨us 4++[S_ 0 0 (on+1)]++us 4++[S_ 1 0 n,i64 len,i64 (IntKind.i64.wrap (j+1))]++us 16,[[]],[some (.row [.int .i64] true ((winOf o 0 on).app (winOf ((Row.zeros 1).setI 0 0 (aiN (by_ (r.S (0+j.toNat) 0)))) 0 1))),some (.row [.str] false r)]⟩) none)) none) none) (K (.exit 0) ⟨us 4++[S_ 0 0 on]++us 23,[[]],[some (.row [.int .i64] true o)]⟩):=by kernel_rfl
theorem r_len(R:St->OD)(K:X->St->OD)(q on n:Nat)(len j:Int)(o r:Row):bodyOf Cen 161 3 q (bst p_len [.n on,.n n,.i len,.i j,.r o,.r r]) (rnd [4,9,10,11,31400004] (some [2,3,4]) R K)=br (j<len) (br (0<=j&&j<(n:Int)) (br ((r.S (0+j.toNat) 0).size<=4000000000) (br (Rt.rpE (by_ (r.S (0+j.toNat) 0)) !=0) (K .ret ⟨us 2++[.slice none 0 0,.bool false,S_ 0 0 on]++us 23,[[]],[some (.row [.int .i64,.int .i64] true o)]⟩) (br (on+(winOf (((Row.zeros 1).setI 0 0 (Rt.rpN (by_ (r.S (0+j.toNat) 0)))).setI 0 1 (Rt.rpD (by_ (r.S (0+j.toNat) 0)))) 0 1).n<=10000000000) (R ⟨us 4++[S_ 0 0 (on+1)]++us 4++[S_ 1 0 n,i64 len,i64 (IntKind.i64.wrap (j+1))]++us 16,[[]],[some (.row [.int .i64,.int .i64] true ((winOf o 0 on).app (winOf (((Row.zeros 1).setI 0 0 (Rt.rpN (by_ (r.S (0+j.toNat) 0)))).setI 0 1 (Rt.rpD (by_ (r.S (0+j.toNat) 0)))) 0 1))),some (.row [.str] false r)]⟩) none)) none) none) (K (.exit 0) ⟨us 4++[S_ 0 0 on]++us 23,[[]],[some (.row [.int .i64,.int .i64] true o)]⟩):=by kernel_rfl
theorem uin(r:Row):evF Cin 6 127 [.slice ksS r]=br (c_lin (⟨0,r.n,(r.n:Int),0,Row.nil,r⟩:A_lin)) (br ((runS (lin.stop (⟨0,r.n,(r.n:Int),0,Row.nil,r⟩:A_lin)) (lin.nx (⟨0,r.n,(r.n:Int),0,Row.nil,r⟩:A_lin)) (lin.len (⟨0,r.n,(r.n:Int),0,Row.nil,r⟩:A_lin)) 0 (lin.ini (⟨0,r.n,(r.n:Int),0,Row.nil,r⟩:A_lin))).1) (some [.slice [.int .i64] Row.nil,.v (.bool false)]) (some [.slice [.int .i64] (winOf (runS (lin.stop (⟨0,r.n,(r.n:Int),0,Row.nil,r⟩:A_lin)) (lin.nx (⟨0,r.n,(r.n:Int),0,Row.nil,r⟩:A_lin)) (lin.len (⟨0,r.n,(r.n:Int),0,Row.nil,r⟩:A_lin)) 0 (lin.ini (⟨0,r.n,(r.n:Int),0,Row.nil,r⟩:A_lin))).snd.2 0 (runS (lin.stop (⟨0,r.n,(r.n:Int),0,Row.nil,r⟩:A_lin)) (lin.nx (⟨0,r.n,(r.n:Int),0,Row.nil,r⟩:A_lin)) (lin.len (⟨0,r.n,(r.n:Int),0,Row.nil,r⟩:A_lin)) 0 (lin.ini (⟨0,r.n,(r.n:Int),0,Row.nil,r⟩:A_lin))).snd.2.n),.v (.bool true)])) (none):=by kernel_rfl
theorem uen(r:Row):evF Cen 6 161 [.slice ksS r]=br (c_len (⟨0,r.n,(r.n:Int),0,Row.nil,r⟩:A_len)) (br ((runS (len.stop (⟨0,r.n,(r.n:Int),0,Row.nil,r⟩:A_len)) (len.nx (⟨0,r.n,(r.n:Int),0,Row.nil,r⟩:A_len)) (len.len (⟨0,r.n,(r.n:Int),0,Row.nil,r⟩:A_len)) 0 (len.ini (⟨0,r.n,(r.n:Int),0,Row.nil,r⟩:A_len))).1) (some [.slice [.int .i64,.int .i64] Row.nil,.v (.bool false)]) (some [.slice [.int .i64,.int .i64] (winOf (runS (len.stop (⟨0,r.n,(r.n:Int),0,Row.nil,r⟩:A_len)) (len.nx (⟨0,r.n,(r.n:Int),0,Row.nil,r⟩:A_len)) (len.len (⟨0,r.n,(r.n:Int),0,Row.nil,r⟩:A_len)) 0 (len.ini (⟨0,r.n,(r.n:Int),0,Row.nil,r⟩:A_len))).snd.2 0 (runS (len.stop (⟨0,r.n,(r.n:Int),0,Row.nil,r⟩:A_len)) (len.nx (⟨0,r.n,(r.n:Int),0,Row.nil,r⟩:A_len)) (len.len (⟨0,r.n,(r.n:Int),0,Row.nil,r⟩:A_len)) 0 (len.ini (⟨0,r.n,(r.n:Int),0,Row.nil,r⟩:A_len))).snd.2.n),.v (.bool true)])) (none):=by kernel_rfl
theorem ok_lin:LoopOk Cin lin.C:=lin.ok (fun _ j a=>a.n=j) (by kernel_rfl)
 (fun its x h hc=>by
  replace h:d_lin its=some x:=h;unfold d_lin at h;split at h
  ·cases h;obtain⟨h1,h2,h3,h4,h5,h6,h7⟩:=c_lin_iff.1 hc;dsimp only at h1 h2 h3;subst h1 h2 h3;rfl
  ·cases h)
 (fun x hc=>by have:=c_lin_iff.1 hc;show x.n<18446744073709551616;omega)
 (fun x hc=>by
  exact(c_lin_iff.1 hc).2.2.2.2.2.2)
 (fun x j a hc hi hI hs=>by
  show a.n+1=j+1;have hI:a.n=j:=hI;rw[hI])
 (fun q ⟨on0,n,len0,j0,o0,r⟩ j a hc hi hI R K=>by
  obtain⟨h1,h2,h3,h4,h5,h6,h7⟩:=c_lin_iff.1 hc;dsimp only at*
  replace hi:j<n:=hi;refine(r_lin R K q ((a.n)) n ((n:Int)) ((j:Int)) ((a)) r).trans ?_;have k1:=h5 j (by omega);rw[A9,AE j,gd j n hi,ltd j n hi,wsn (by omega),A4 (show(r.S j 0).size<=4294967296 by omega)];show br (aiE (by_ (r.S j 0))) _ (br (decide (a.n+1<=10000000000)) _ none)=_;rw[A4 (show a.n+1<=10000000000 by omega)];rfl)
 (fun q ⟨on0,n,len0,j0,o0,r⟩ a hc hI R K=>by
  obtain⟨h1,h2,h3,h4,h5,h6,h7⟩:=c_lin_iff.1 hc;dsimp only at*
  refine(r_lin R K q ((a.n)) n ((n:Int)) ((n:Int)) ((a)) r).trans ?_;rw[ltn n];rfl)
theorem ok_len:LoopOk Cen len.C:=len.ok (fun _ j a=>a.n=j) (by kernel_rfl)
 (fun its x h hc=>by
  replace h:d_len its=some x:=h;unfold d_len at h;split at h
  ·cases h;obtain⟨h1,h2,h3,h4,h5,h6,h7⟩:=c_len_iff.1 hc;dsimp only at h1 h2 h3;subst h1 h2 h3;rfl
  ·cases h)
 (fun x hc=>by have:=c_len_iff.1 hc;show x.n<18446744073709551616;omega)
 (fun x hc=>by
  exact(c_len_iff.1 hc).2.2.2.2.2.2)
 (fun x j a hc hi hI hs=>by
  show a.n+1=j+1;have hI:a.n=j:=hI;rw[hI])
 (fun q ⟨on0,n,len0,j0,o0,r⟩ j a hc hi hI R K=>by
  obtain⟨h1,h2,h3,h4,h5,h6,h7⟩:=c_len_iff.1 hc;dsimp only at*
  replace hi:j<n:=hi;refine(r_len R K q ((a.n)) n ((n:Int)) ((j:Int)) ((a)) r).trans ?_;have k1:=h5 j (by omega);rw[A9,AE j,gd j n hi,ltd j n hi,wsn (by omega),A4 (show(r.S j 0).size<=4000000000 by omega)];show br (Rt.rpE (by_ (r.S j 0)) !=0) _ (br (decide (a.n+1<=10000000000)) _ none)=_;rw[A4 (show a.n+1<=10000000000 by omega)];rfl)
 (fun q ⟨on0,n,len0,j0,o0,r⟩ a hc hI R K=>by
  obtain⟨h1,h2,h3,h4,h5,h6,h7⟩:=c_len_iff.1 hc;dsimp only at*
  refine(r_len R K q ((a.n)) n ((n:Int)) ((n:Int)) ((a)) r).trans ?_;rw[ltn n];rfl)
theorem run_none{β:Type}{stop:Nat->β->Bool}{nx:Nat->β->β}{p:Nat->Bool}(hp:∀j a,stop j a=p j):∀(m j:Nat)(a:β),(runS stop nx m j a).1=anyF p m j∧(anyF p m j=false->(runS stop nx m j a).2.2=fldN nx m j a)
 |0,j,a=>⟨rfl,fun _=>rfl⟩
 |m+1,j,a=>by
  obtain⟨h1,h2⟩:=run_none hp (nx:=nx) m (j+1) (nx j a);show(bif stop j a then(true,j,a)else runS stop nx m (j+1) (nx j a)).1=(p j||anyF p m (j+1))∧((p j||anyF p m (j+1))=false->(bif stop j a then(true,j,a)else runS stop nx m (j+1) (nx j a)).2.2=fldN nx m (j+1) (nx j a));rw[hp];cases p j
  ·exact⟨h1,h2⟩
  ·exact⟨rfl,fun h=>by cases h⟩
theorem app_at(r s:Row){i:Nat}(h:i<r.n):((r.app s).I i=r.I i∧(r.app s).S i=r.S i)∧(r.app s).R i=r.R i:=by
 have e:Nat.blt i r.n=true:=by rw[Nat.blt_eq];exact h
 refine⟨⟨funext fun j=>?_,funext fun j=>?_⟩,funext fun j=>?_⟩
 ·show(bif Nat.blt i r.n then _ else _)=_;rw[e];rfl
 ·show(bif Nat.blt i r.n then _ else _)=_;rw[e];rfl
 ·show(bif Nat.blt i r.n then _ else _)=_;rw[e];rfl
theorem app_nx(r s:Row){i:Nat}(h:¬i<r.n):((r.app s).I i=s.I (i-r.n)∧(r.app s).S i=s.S (i-r.n))∧(r.app s).R i=s.R (i-r.n):=by
 have e:Nat.blt i r.n=false:=by
  cases hb:Nat.blt i r.n
  ·rfl
  ·rw[Nat.blt_eq]at hb;exact absurd hb h
 refine⟨⟨funext fun j=>?_,funext fun j=>?_⟩,funext fun j=>?_⟩
 ·show(bif Nat.blt i r.n then _ else _)=_;rw[e];rfl
 ·show(bif Nat.blt i r.n then _ else _)=_;rw[e];rfl
 ·show(bif Nat.blt i r.n then _ else _)=_;rw[e];rfl
theorem w0_I(r:Row)(i j:Nat):(win0 r).I i j=r.I i j:=by
 refine(winOf_I r 0 r.n i j).trans ?_;rw[AE]
theorem psI_n(r:Row)(x:Int):(psI r x).n=r.n+1:=rfl
theorem psI_lo(r:Row)(x:Int){i:Nat}(h:i<r.n):(psI r x).I i 0=r.I i 0:=congrFun (app_at (winOf r 0 r.n) (winOf ((Row.zeros 1).setI 0 0 x) 0 1) (i:=i) h).1.1 0
theorem psI_hi(r:Row)(x:Int):(psI r x).I r.n 0=x:=by
 refine(congrFun (app_nx (winOf r 0 r.n) (winOf ((Row.zeros 1).setI 0 0 x) 0 1) (i:=r.n) (Nat.lt_irrefl _)).1.1 0).trans ?_;rw[show r.n-(winOf r 0 r.n).n=0 from Nat.sub_self _];rfl
theorem psQ_n(r:Row)(x y:Int):(psQ r x y).n=r.n+1:=rfl
theorem psQ_lo(r:Row)(x y:Int){i:Nat}(h:i<r.n)(c:Nat):(psQ r x y).I i c=r.I i c:=congrFun (app_at (winOf r 0 r.n) (winOf (((Row.zeros 1).setI 0 0 x).setI 0 1 y) 0 1) (i:=i) h).1.1 c
theorem psQ_hi(r:Row)(x y:Int):(psQ r x y).I r.n 0=x∧(psQ r x y).I r.n 1=y:=by
 have h:=(app_nx (winOf r 0 r.n) (winOf (((Row.zeros 1).setI 0 0 x).setI 0 1 y) 0 1) (i:=r.n) (Nat.lt_irrefl _)).1.1;have e:r.n-(winOf r 0 r.n).n=0:=Nat.sub_self _;refine⟨(congrFun h 0).trans ?_,(congrFun h 1).trans ?_⟩<;>rw[e]<;>rfl
def niX(r:Row):Bool×Nat×Row:=runS (fun j _=>aiE (by_ (r.S j 0))) (fun j a=>psI a (aiN (by_ (r.S j 0)))) r.n 0 .nil
def niB(r:Row):Bool:= !(niX r).1
def niR(r:Row):Row:=bif (niX r).1 then .nil else win0 (niX r).2.2
def qiX(r:Row):Bool×Nat×Row:=runS (fun j _=>Rt.rpE (by_ (r.S j 0)) !=0) (fun j a=>psQ a (Rt.rpN (by_ (r.S j 0))) (Rt.rpD (by_ (r.S j 0)))) r.n 0 .nil
def qiB(r:Row):Bool:= !(qiX r).1
def qiR(r:Row):Row:=bif (qiX r).1 then .nil else win0 (qiX r).2.2
def szB(r:Row):Bool:=decide (r.n<=1000000)&& !anyF (fun j=>decide (4000000000<(r.S j 0).size)) r.n 0
theorem szB_P{r:Row}(h:szB r=true):r.n<=1000000∧szP r:=by
 unfold szB at h;rw[A2,Bool.not_eq_true',A3]at h;exact⟨h.1,fun i hi=>by have:=anyF_false.1 h.2 i (Nat.zero_le _) (by omega);have:=AO this;omega⟩
theorem szB_of{r:Row}(h1:r.n<=1000000)(h2:szP r):szB r=true:=by
 unfold szB;rw[A2,Bool.not_eq_true',A3];exact⟨h1,anyF_false.2 fun j _ hj=>AB (by have:=h2 j (by omega);omega)⟩
def FinV(c:Row->Bool)(o:Row->Row)(b:Row->Bool):FD
 |[.slice [.str] r]=>some (c r,[.slice [.int .i64] (o r),.v (.bool (b r))])
 |_=>none
def FenV(c:Row->Bool)(o:Row->Row)(b:Row->Bool):FD
 |[.slice [.str] r]=>some (c r,[.slice [.int .i64,.int .i64] (o r),.v (.bool (b r))])
 |_=>none
theorem Cin_ok:CxW Cin Wd:=mkCx_okW enter mixed (fun p h=>by
 simp only[A8,A7,or_false]at h;rcases h with rfl;exact den_atoi) (fun l h=>by
 simp only[A8,A7,or_false]at h;rcases h with rfl;exact ok_lin)
theorem Cen_ok:CxW Cen Wd:=mkCx_okW enter mixed (fun p h=>by
 simp only[A8,A7,or_false]at h;rcases h with rfl;exact Rt.den_parp) (fun l h=>by
 simp only[A8,A7,or_false]at h;rcases h with rfl;exact ok_len)
theorem den_ints:DenW Tryz.prog Wd 127 (FinV szB niR niB):=evF_denW Cin_ok fun ds rs h=>by
 unfold FinV at h;split at h
 ·rename_i r;simp only[A5,A6]at h;obtain⟨h0,rfl⟩:=h;obtain⟨h1,h2⟩:=szB_P h0;refine(uin r).trans ?_;rw[c_lin_iff.2 ⟨rfl,rfl,rfl,h1,h2,rfl,rfl⟩,br_true];show br (niX r).1 (some [D.slice [.int .i64] .nil,D.v (.bool false)]) (some [D.slice [.int .i64] (win0 (niX r).2.2),D.v (.bool true)])=_;unfold niR niB;cases(niX r).1<;>rfl
 ·cases h
theorem den_ends:DenW Tryz.prog Wd 161 (FenV szB qiR qiB):=evF_denW Cen_ok fun ds rs h=>by
 unfold FenV at h;split at h
 ·rename_i r;simp only[A5,A6]at h;obtain⟨h0,rfl⟩:=h;obtain⟨h1,h2⟩:=szB_P h0;refine(uen r).trans ?_;rw[c_len_iff.2 ⟨rfl,rfl,rfl,h1,h2,rfl,rfl⟩,br_true];show br (qiX r).1 (some [D.slice [.int .i64,.int .i64] .nil,D.v (.bool false)]) (some [D.slice [.int .i64,.int .i64] (win0 (qiX r).2.2),D.v (.bool true)])=_;unfold qiR qiB;cases(qiX r).1<;>rfl
 ·cases h
theorem fld_ps(f:Nat->Int):∀(m j:Nat)(a:Row),a.n=j->(∀i,i<j->a.I i 0=f i)->(fldN (fun j a=>psI a (f j)) m j a).n=j+m∧∀i,i<j+m->(fldN (fun j a=>psI a (f j)) m j a).I i 0=f i
 |0,j,a,h1,h2=>⟨h1,h2⟩
 |m+1,j,a,h1,h2=>by
  have h:=fld_ps f m (j+1) (psI a (f j)) (by rw[psI_n,h1]) (fun i hi=>by
   by_cases hij:i<j
   ·rw[psI_lo _ _ (by omega)];exact h2 i hij
   ·have:i=a.n:=by omega
    rw[this,psI_hi,h1])
  rw[show j+(m+1)=j+1+m by omega];exact h
theorem fld_psQ(f g:Nat->Int):∀(m j:Nat)(a:Row),a.n=j->(∀i,i<j->a.I i 0=f i∧a.I i 1=g i)->(fldN (fun j a=>psQ a (f j) (g j)) m j a).n=j+m∧∀i,i<j+m->(fldN (fun j a=>psQ a (f j) (g j)) m j a).I i 0=f i∧(fldN (fun j a=>psQ a (f j) (g j)) m j a).I i 1=g i
 |0,j,a,h1,h2=>⟨h1,h2⟩
 |m+1,j,a,h1,h2=>by
  have h:=fld_psQ f g m (j+1) (psQ a (f j) (g j)) (by rw[psQ_n,h1]) (fun i hi=>by
   by_cases hij:i<j
   ·rw[psQ_lo _ _ _ (by omega),psQ_lo _ _ _ (by omega)];exact h2 i hij
   ·have:i=a.n:=by omega
    rw[this,(psQ_hi ..).1,(psQ_hi ..).2,h1];exact⟨rfl,rfl⟩)
  rw[show j+(m+1)=j+1+m by omega];exact h
theorem ni_is(r:Row):niB r= !anyF (fun j=>aiE (by_ (r.S j 0))) r.n 0∧(niB r=true->(niR r).n=r.n∧∀i,i<r.n->(niR r).I i 0=aiN (by_ (r.S i 0))):=by
 obtain⟨h1,h2⟩:=run_none (stop:=fun j (_:Row)=>aiE (by_ (r.S j 0))) (nx:=fun j a=>psI a (aiN (by_ (r.S j 0)))) (p:=fun j=>aiE (by_ (r.S j 0))) (fun _ _=>rfl) r.n 0 .nil;refine⟨by unfold niB niX;rw[h1],fun h=>?_⟩;have hx:(niX r).1=false:=by unfold niB at h;simpa using h
 have e:(niX r).2.2=fldN (fun j a=>psI a (aiN (by_ (r.S j 0)))) r.n 0 .nil:=h2 (h1.symm.trans hx);obtain⟨h3,h4⟩:=fld_ps (fun j=>aiN (by_ (r.S j 0))) r.n 0 .nil rfl (fun i hi=>absurd hi (Nat.not_lt_zero _));unfold niR;rw[hx,e];refine⟨h3.trans (AE _),fun i hi=>?_⟩;show(win0 _).I i 0=_;rw[w0_I];exact h4 i (by omega)
theorem qi_is(r:Row):qiB r= !anyF (fun j=>Rt.rpE (by_ (r.S j 0)) !=0) r.n 0∧(qiB r=true->(qiR r).n=r.n∧∀i,i<r.n->(qiR r).I i 0=Rt.rpN (by_ (r.S i 0))∧(qiR r).I i 1=Rt.rpD (by_ (r.S i 0))):=by
 obtain⟨h1,h2⟩:=run_none (stop:=fun j (_:Row)=>Rt.rpE (by_ (r.S j 0)) !=0) (nx:=fun j a=>psQ a (Rt.rpN (by_ (r.S j 0))) (Rt.rpD (by_ (r.S j 0)))) (p:=fun j=>Rt.rpE (by_ (r.S j 0)) !=0) (fun _ _=>rfl) r.n 0 .nil;refine⟨by unfold qiB qiX;rw[h1],fun h=>?_⟩;have hx:(qiX r).1=false:=by unfold qiB at h;simpa using h
 have e:(qiX r).2.2=fldN (fun j a=>psQ a (Rt.rpN (by_ (r.S j 0))) (Rt.rpD (by_ (r.S j 0)))) r.n 0 .nil:=h2 (h1.symm.trans hx);obtain⟨h3,h4⟩:=fld_psQ (fun j=>Rt.rpN (by_ (r.S j 0))) (fun j=>Rt.rpD (by_ (r.S j 0))) r.n 0 .nil rfl (fun i hi=>absurd hi (Nat.not_lt_zero _));unfold qiR;rw[hx,e];refine⟨h3.trans (AE _),fun i hi=>?_⟩;show(win0 _).I i 0=_∧(win0 _).I i 1=_;rw[w0_I,w0_I];exact h4 i (by omega)
theorem niR_n(r:Row):(niR r).n<=r.n:=by
 cases h:niB r
 ·unfold niR;unfold niB at h;rw[show(niX r).1=true by simpa using h];exact Nat.zero_le _
 ·exact Nat.le_of_eq ((ni_is r).2 h).1
theorem qiR_n(r:Row):(qiR r).n<=r.n:=by
 cases h:qiB r
 ·unfold qiR;unfold qiB at h;rw[show(qiX r).1=true by simpa using h];exact Nat.zero_le _
 ·exact Nat.le_of_eq ((qi_is r).2 h).1
def docS(j:Nat):ByteArray:=sDocument++(match j with|0=>sCake|1=>sGoods|2=>sRent|_=>sSettle)
def t_pk(s rest:ByteArray)(k:Int):St:=⟨[.string s]++us 1++[.pointer (some ⟨0,0,some 0⟩)]++us 2++[.string rest]++us 1++[.pointer (some ⟨1,0,some 0⟩)]++us 58,[[]],[some (.box [.int .u8 0,.slice none 0 0,.slice none 0 0,.int .u8 0,.slice none 0 0,.slice none 0 0,.slice none 0 0,.slice none 0 0,i64 0,.slice none 0 0,.slice none 0 0,i64 0,.slice none 0 0,.slice none 0 0,.int .u8 0]),some (.box [.int .u8 k,.slice none 0 0,.slice none 0 0,.int .u8 0,.slice none 0 0,.slice none 0 0,.slice none 0 0,.slice none 0 0,i64 0,.slice none 0 0,.slice none 0 0,i64 0,.slice none 0 0,.slice none 0 0,.int .u8 0])]⟩
def p_lpk:PSt:={τ:=[.v (.str)]++pu 1++[.v (.c (.pointer (some ⟨0,0,some 0⟩)))]++pu 1++[.v (.str),.v (.str)]++pu 1++[.v (.c (.pointer (some ⟨1,0,some 0⟩)))]++pu 17++[.agg [.str,.str,.str,.str],.v (.int .i64)]++pu 39,saved:=[[]],mem:=[.box [.v (.c (.int .u8 0)),.v (.c (.slice none 0 0)),.v (.c (.slice none 0 0)),.v (.c (.int .u8 0)),.v (.c (.slice none 0 0)),.v (.c (.slice none 0 0)),.v (.c (.slice none 0 0)),.v (.c (.slice none 0 0)),.v (.c (.int .i64 0)),.v (.c (.slice none 0 0)),.v (.c (.slice none 0 0)),.v (.c (.int .i64 0)),.v (.c (.slice none 0 0)),.v (.c (.slice none 0 0)),.v (.c (.int .u8 0))],.box [.v (.int .u8),.v (.c (.slice none 0 0)),.v (.c (.slice none 0 0)),.v (.c (.int .u8 0)),.v (.c (.slice none 0 0)),.v (.c (.slice none 0 0)),.v (.c (.slice none 0 0)),.v (.c (.slice none 0 0)),.v (.c (.int .i64 0)),.v (.c (.slice none 0 0)),.v (.c (.slice none 0 0)),.v (.c (.int .i64 0)),.v (.c (.slice none 0 0)),.v (.c (.slice none 0 0)),.v (.c (.int .u8 0))]]}
structure A_lpk where
 s:ByteArray
 hd:ByteArray
 rest:ByteArray
 w1:ByteArray
 w2:ByteArray
 w3:ByteArray
 w4:ByteArray
 j:Int
 k:Int
def d_lpk(its:List It):Option A_lpk:=match its with|[.s s,.s hd,.s rest,.s w1,.s w2,.s w3,.s w4,.i j,.i k]=>some ⟨s,hd,rest,w1,w2,w3,w4,j,k⟩|_=>none
def c_lpk(x:A_lpk):Bool:=x.j=0∧x.w1=sCake∧x.w2=sGoods∧x.w3=sRent∧x.w4=sSettle
def c_lpk_iff{x:A_lpk}:=@ciff _ c_lpk _ _ rfl x
def lpk:FoldL A_lpk (Int):=⟨26,6,[0,2,4,5,7,25,26],[0,2,3,5,7],p_lpk,d_lpk,fun x j a=>[.s x.s,.s x.hd,.s x.rest,.s x.w1,.s x.w2,.s x.w3,.s x.w4,.i (j:Int),.i a],fun x=>4,c_lpk,fun x=>x.k,fun x j a=>bif x.hd.toList==(docS j).toList then(j:Int)+1 else a,fun x a K=>K (.exit 0) (t_pk x.s x.rest a)⟩
theorem r_lpk(GG:List (FuncId×(FD)))(LL:List LoopC)(II:List (FuncId×(List Value->St->Option (Bool×Value×St))))(R:St->OD)(K:X->St->OD)(q:Nat)(s hd rest w1 w2 w3 w4:ByteArray)(j k:Int):bodyOf (mkCx Tryz.prog fns GG LL [] II) 26 6 q (bst p_lpk [.s s,.s hd,.s rest,.s w1,.s w2,.s w3,.s w4,.i j,.i k]) (rnd [0,2,4,5,7,25,26] (some [0,2,3,5,7]) R K)=br (j<4) (br (0<=j&&j<(↑4:Int)) (br (j=(↑0:Int)) (br ((↑({data:= #[100,111,99,117,109,101,110,116,32]:ByteArray}.size+w1.size):Int)>IntKind.i64.max) none (br (hd.toList==({data:={toList:=[100,111,99,117,109,101,110,116,32]:Array UInt8}:ByteArray}++w1).toList) (R (bst p_lpk [.s s,.s hd,.s rest,.s w1,.s w2,.s w3,.s w4,.i (IntKind.i64.wrap (j+1)),.i (IntKind.u8.wrap (IntKind.i64.wrap (j+1)))])) (R (bst p_lpk [.s s,.s hd,.s rest,.s w1,.s w2,.s w3,.s w4,.i (IntKind.i64.wrap (j+1)),.i k])))) (br (j=(↑1:Int)) (br ((↑({data:= #[100,111,99,117,109,101,110,116,32]:ByteArray}.size+w2.size):Int)>IntKind.i64.max) none (br (hd.toList==({data:={toList:=[100,111,99,117,109,101,110,116,32]:Array UInt8}:ByteArray}++w2).toList) (R (bst p_lpk [.s s,.s hd,.s rest,.s w1,.s w2,.s w3,.s w4,.i (IntKind.i64.wrap (j+1)),.i (IntKind.u8.wrap (IntKind.i64.wrap (j+1)))])) (R (bst p_lpk [.s s,.s hd,.s rest,.s w1,.s w2,.s w3,.s w4,.i (IntKind.i64.wrap (j+1)),.i k])))) (br (j=(↑2:Int)) (br ((↑({data:= #[100,111,99,117,109,101,110,116,32]:ByteArray}.size+w3.size):Int)>IntKind.i64.max) none (br (hd.toList==({data:={toList:=[100,111,99,117,109,101,110,116,32]:Array UInt8}:ByteArray}++w3).toList) (R (bst p_lpk [.s s,.s hd,.s rest,.s w1,.s w2,.s w3,.s w4,.i (IntKind.i64.wrap (j+1)),.i (IntKind.u8.wrap (IntKind.i64.wrap (j+1)))])) (R (bst p_lpk [.s s,.s hd,.s rest,.s w1,.s w2,.s w3,.s w4,.i (IntKind.i64.wrap (j+1)),.i k])))) (br (j=(↑(0+1+1+1):Int)) (br ((↑({data:= #[100,111,99,117,109,101,110,116,32]:ByteArray}.size+w4.size):Int)>IntKind.i64.max) none (br (hd.toList==({data:={toList:=[100,111,99,117,109,101,110,116,32]:Array UInt8}:ByteArray}++w4).toList) (R (bst p_lpk [.s s,.s hd,.s rest,.s w1,.s w2,.s w3,.s w4,.i (IntKind.i64.wrap (j+1)),.i (IntKind.u8.wrap (IntKind.i64.wrap (j+1)))])) (R (bst p_lpk [.s s,.s hd,.s rest,.s w1,.s w2,.s w3,.s w4,.i (IntKind.i64.wrap (j+1)),.i k])))) none)))) none) (K (.exit 0) (t_pk s rest k)):=by kernel_rfl
theorem ok_lpk(GG:List (FuncId×(FD)))(LL:List LoopC)(II:List (FuncId×(List Value->St->Option (Bool×Value×St)))):LoopOk (mkCx Tryz.prog fns GG LL [] II) lpk.C:=lpk.ok (fun x j a=>True) (by kernel_rfl)
 (fun its x h hc=>by
  replace h:d_lpk its=some x:=h;unfold d_lpk at h;split at h
  ·cases h;obtain⟨h1,h2,h3,h4,h5⟩:=c_lpk_iff.1 hc;dsimp only at h1 h2 h3 h4 h5;subst h1 h2 h3 h4 h5;rfl
  ·cases h)
 (fun x hc=>by have:=c_lpk_iff.1 hc;show 4<18446744073709551616;omega)
 (fun x hc=>by
  trivial)
 (fun x j a hc hi hI=>by
  trivial)
 (fun q ⟨s,hd,rest,w1,w2,w3,w4,j0,k0⟩ j a hc hi hI R K=>by
  obtain⟨h1,h2,h3,h4,h5⟩:=c_lpk_iff.1 hc;dsimp only at*
  replace hi:j<4:=hi;refine(r_lpk GG LL II R K q s hd rest w1 w2 w3 w4 ((j:Int)) ((a))).trans ?_;have hj:j=0∨j=1∨j=2∨j=3:=by omega
  subst h2 h3 h4 h5;rcases hj with rfl|rfl|rfl|rfl
  ·show br (hd.toList==(docS 0).toList) (R _) (R _)=R (bst lpk.p (lpk.S _ (0+1) (bif hd.toList==(docS 0).toList then((0:Nat):Int)+1 else a)));cases hd.toList==(docS 0).toList<;>rfl
  ·show br (hd.toList==(docS 1).toList) (R _) (R _)=R (bst lpk.p (lpk.S _ (1+1) (bif hd.toList==(docS 1).toList then((1:Nat):Int)+1 else a)));cases hd.toList==(docS 1).toList<;>rfl
  ·show br (hd.toList==(docS 2).toList) (R _) (R _)=R (bst lpk.p (lpk.S _ (2+1) (bif hd.toList==(docS 2).toList then((2:Nat):Int)+1 else a)));cases hd.toList==(docS 2).toList<;>rfl
  ·show br (hd.toList==(docS 3).toList) (R _) (R _)=R (bst lpk.p (lpk.S _ (3+1) (bif hd.toList==(docS 3).toList then((3:Nat):Int)+1 else a)));cases hd.toList==(docS 3).toList<;>rfl)
 (fun q ⟨s,hd,rest,w1,w2,w3,w4,j0,k0⟩ a hc hI R K=>by
  obtain⟨h1,h2,h3,h4,h5⟩:=c_lpk_iff.1 hc;dsimp only at*
  refine(r_lpk GG LL II R K q s hd rest w1 w2 w3 w4 (((4:Nat):Int)) ((a))).trans ?_;rfl)
end Go.Proofs.YtkcnkimndhgkgaaGreatDoor
namespace Go.Proofs.YtkcnkimndhgkgaaGreatDoor.Ln
open Go.Ev Go.Lib Go.RowKit
open Go.Dec (dec_ne dec_digit nDigits_lt decDigits_ten ofNat_toNat)
def sp(k:UInt8):List UInt8->List UInt8×Option (List UInt8)
 |[]=>([],none)
 |c::r=>if c=k then([],some r)else(c::(sp k r).1,(sp k r).2)
theorem sp_spec(k:UInt8):∀l:List UInt8,l=(sp k l).1++(match(sp k l).2 with|none=>[]|some r=>k::r)
 |[]=>rfl
 |c::r=>by
  unfold sp;by_cases h:c=k
  ·rw[AM h,h];rfl
  ·rw[AL h];have:=sp_spec k r;show c::r=c::((sp k r).1++_);rw[<-this]
theorem sp_app(k:UInt8):∀(x y:List UInt8),(∀c∈x,c≠k)->sp k (x++k::y)=(x,some y)
 |[],y,_=>by simp[sp]
 |c::x,y,h=>by
  show sp k (c::(x++k::y))=_;unfold sp;rw[AL (h c (by simp)),sp_app k x y fun d hd=>h d (by simp[hd])]
theorem sp_none(k:UInt8):∀(x:List UInt8),(∀c∈x,c≠k)->sp k x=(x,none)
 |[],_=>rfl
 |c::x,h=>by
  unfold sp;rw[AL (h c (by simp)),sp_none k x fun d hd=>h d (by simp[hd])]
theorem index_sp(k:UInt8):∀l:List UInt8,index l [k]=match(sp k l).2 with|none=> -1|some _=>((sp k l).1.length:Int)
 |[]=>rfl
 |c::r=>by
  unfold index sp;by_cases h:c=k
  ·subst h;rw[AM (by simp[List.isPrefixOf])];rw[AM rfl];rfl
  ·have hp:[(k:UInt8)].isPrefixOf (c::r)=false:=by
    simp only[List.isPrefixOf,Bool.and_eq_false_iff]
    left
    exact beq_eq_false_iff_ne.2 fun e=>h e.symm
   rw[AL (by rw[hp];decide),AL h,index_sp k r];show(if _ then _ else _)=match(sp k r).2 with|none=>(-1:Int)|some _=>((c::(sp k r).1).length:Int)
   cases(sp k r).2 with
   |none=>rfl
   |some y=>
    simp only[List.length_cons];rw[AL (by simp)];omega
theorem sp_take(k:UInt8):∀l:List UInt8,l.take (sp k l).1.length=(sp k l).1∧((sp k l).2=none->(sp k l).1.length=l.length)∧∀r,(sp k l).2=some r->(sp k l).1.length<l.length∧l.drop ((sp k l).1.length+1)=r∧l[(sp k l).1.length]? =some k
 |[]=>⟨rfl,fun _=>rfl,fun r h=>by cases h⟩
 |c::r=>by
  unfold sp;by_cases h:c=k
  ·rw[AM h];exact⟨rfl,(fun h=>by cases h),fun y hy=>by cases hy;exact⟨by simp,by simp,by simp[h]⟩⟩
  ·rw[AL h];obtain⟨h1,h2,h3⟩:=sp_take k r;refine⟨by simp[h1],fun hn=>by simp[h2 hn],fun y hy=>?_⟩;obtain⟨a,b,d⟩:=h3 y hy;exact⟨by simp;omega,by simpa using b,by simpa using d⟩
theorem cut_sp(k:UInt8)(l:List UInt8):cut l [k]=((sp k l).1,(sp k l).2.getD [],(sp k l).2.isSome):=by
 unfold cut;rw[index_sp k];obtain⟨h1,h2,h3⟩:=sp_take k l;cases hs:(sp k l).2 with
 |none=>
  simp only[hs];rw[AL (by omega)];have:=sp_spec k l;rw[hs]at this;simp only[List.append_nil]at this;rw[<-this];rfl
 |some y=>
  obtain⟨a,b,_⟩:=h3 y hs;simp only[hs];rw[AM (by omega),A9,h1];simp only[List.length_cons,List.length_nil,AE,b];rfl
def pieces(k:UInt8):List UInt8->List (List UInt8)
 |[]=>[[]]
 |c::r=>if c=k then []::pieces k r else match pieces k r with
  |[]=>[[c]]
  |p::ps=>(c::p)::ps
theorem pieces_ne(k:UInt8):∀l:List UInt8,pieces k l≠[]
 |[]=>by simp[pieces]
 |c::r=>by
  unfold pieces;split
  ·simp
  ·split<;>simp
theorem pieces_sp(k:UInt8):∀l:List UInt8,pieces k l=(sp k l).1::(match(sp k l).2 with|none=>[]|some r=>pieces k r)
 |[]=>rfl
 |c::r=>by
  have e:sp k (c::r)=if c=k then([],some r)else(c::(sp k r).1,(sp k r).2):=rfl;have e2:pieces k (c::r)=if c=k then []::pieces k r else match pieces k r with
   |[]=>[[c]]
   |p::ps=>(c::p)::ps:=rfl
  rw[e,e2];by_cases h:c=k
  ·rw[AM h,AM h]
  ·rw[AL h,AL h,pieces_sp k r]
theorem pieces_none(k:UInt8)(x:List UInt8)(h:∀c∈x,c≠k):pieces k x=[x]:=by rw[pieces_sp,sp_none k x h]
theorem pieces_app(k:UInt8)(x y:List UInt8)(h:∀c∈x,c≠k):pieces k (x++k::y)=x::pieces k y:=by rw[pieces_sp,sp_app k x y h]
theorem by_extract0(s:ByteArray)(i:Nat):by_ (s.extract 0 i)=(by_ s).take i:=by
 unfold by_;simp[ByteArray.data_extract,List.extract]
theorem by_extract1(s:ByteArray)(i:Nat):by_ (s.extract i s.size)=(by_ s).drop i:=by
 unfold by_;rw[ByteArray.data_extract];show(s.data.extract i s.data.size).toList=_;rw[Array.toList_extract,List.extract,List.take_of_length_le (by simp)]
theorem splS_pieces(k:UInt8):∀(n:Nat)(s:ByteArray),s.size<=n->(splS s ⟨#[k]⟩).map by_=pieces k (by_ s):=by
 intro n
 induction n with
 |zero=>
  intro s hs;have e:by_ s=[]:=List.eq_nil_of_length_eq_zero (by rw[<-size_by];omega);have hi:indexB s ⟨#[k]⟩= -1:=by
   show index (by_ s) [k]= -1;rw[e];rfl
  unfold splS;rw[countB_miss _ _ hi,splitB_zero,e];show [by_ s]=[[]];rw[e]
 |succ n ih=>
  intro s hs;have hx:=index_sp k (by_ s);rw[pieces_sp];cases h2:(sp k (by_ s)).2 with
  |none=>
   rw[h2]at hx;have hi:indexB s ⟨#[k]⟩= -1:=hx;unfold splS;rw[countB_miss _ _ hi,splitB_zero];have:=sp_spec k (by_ s);rw[h2]at this;simp only[List.append_nil]at this;show [by_ s]=[(sp k (by_ s)).1];rw[<-this]
  |some r=>
   rw[h2]at hx;have hi:indexB s ⟨#[k]⟩=(((sp k (by_ s)).1.length:Nat):Int):=hx;obtain⟨t1,_,t3⟩:=sp_take k (by_ s);obtain⟨a,b,_⟩:=t3 r h2;have hsz:(⟨#[k]⟩:ByteArray).size=1:=rfl;unfold splS;rw[countB_hit s ⟨#[k]⟩ _ (AC _) hi,Nat.add_comm,splitB_hit _ _ _ _ _ hi,List.map_cons,hsz,Nat.add_zero];have e1:by_ (s.extract 0 (sp k (by_ s)).1.length)=(sp k (by_ s)).1:=by rw[by_extract0,t1]
   have e2:by_ (s.extract ((sp k (by_ s)).1.length+1) s.size)=r:=by rw[by_extract1,b]
   have hle:(s.extract ((sp k (by_ s)).1.length+1) s.size).size<=n:=by
    rw[size_by,e2,<-b,List.length_drop,<-size_by];rw[<-size_by]at a;omega
   have:=ih _ hle;unfold splS at this;rw[e1,this,e2]
def oneB(s:ByteArray):ByteArray:=txt (sp 10 (by_ s)).1
def restB(s:ByteArray):ByteArray:=txt ((sp 10 (by_ s)).2.getD [])
def lnF:Nat->List UInt8->Nat
 |0,_=>0
 |_+1,[]=>0
 |f+1,c::r=>lnF f ((sp 10 (c::r)).2.getD [])+1
theorem sp_lt(k c:UInt8)(r:List UInt8):((sp k (c::r)).2.getD []).length<(c::r).length:=by
 obtain⟨_,_,h3⟩:=sp_take k (c::r);cases h:(sp k (c::r)).2 with
 |none=>simp
 |some y=>
  obtain⟨h4,h5,_⟩:=h3 y h;show y.length<_;rw[<-h5,List.length_drop];omega
theorem lnF_eq:∀(f g:Nat)(l:List UInt8),l.length<=f->l.length<=g->lnF f l=lnF g l
 |0,0,l,_,_=>rfl
 |0,g+1,[],_,_=>rfl
 |0,g+1,c::r,h,_=>by simp at h
 |f+1,0,[],_,_=>rfl
 |f+1,0,c::r,_,h=>by simp at h
 |f+1,g+1,[],_,_=>rfl
 |f+1,g+1,c::r,h1,h2=>by
  have:=sp_lt 10 c r;simp only[List.length_cons]at h1 h2 this;show lnF f _+1=lnF g _+1;rw[lnF_eq f g _ (by omega) (by omega)]
theorem lnF_le:∀(f:Nat)(l:List UInt8),lnF f l<=f
 |0,_=>AC _
 |f+1,[]=>Nat.zero_le _
 |f+1,c::r=>Nat.succ_le_succ (lnF_le f _)
def lnN(s:ByteArray):Nat:=lnF s.size (by_ s)
theorem rest_size{s:ByteArray}(h:by_ s≠[]):(restB s).size<s.size:=by
 unfold restB;rw[txt_size,size_by s];cases hb:by_ s with
 |nil=>exact absurd hb h
 |cons c r=>exact sp_lt 10 c r
theorem lnN_rest{s:ByteArray}(h:by_ s≠[]):lnN s=lnN (restB s)+1:=by
 have h1:=rest_size h;unfold lnN;cases hb:by_ s with
 |nil=>exact absurd hb h
 |cons c r=>
  have hs:s.size=(s.size-1)+1:=by have:=size_by s;rw[hb,List.length_cons]at this;omega
  rw[hs];show lnF (s.size-1) _+1=lnF (restB s).size (by_ (restB s))+1;have e:by_ (restB s)=(sp 10 (c::r)).2.getD []:=by unfold restB;rw[by_txt,hb]
  rw[e]
  congr 1
  refine lnF_eq _ _ _ ?_ ?_
  ·rw[<-e,<-size_by];omega
  ·rw[<-e,<-size_by];exact AC _
theorem lnN_nil{s:ByteArray}(h:by_ s=[]):lnN s=0:=by
 unfold lnN;rw[size_by,h];rfl
theorem lnN_zero{s:ByteArray}(h:lnN s=0):by_ s=[]:=by
 cases hb:by_ s with
 |nil=>rfl
 |cons c r=>have:=lnN_rest (s:=s) (by rw[hb];simp);omega
theorem lnN_le(s:ByteArray):lnN s<=s.size:=lnF_le _ _
theorem cutN(s:ByteArray):cut (by_ s) (by_ ⟨#[10]⟩)=((sp 10 (by_ s)).1,(sp 10 (by_ s)).2.getD [],(sp 10 (by_ s)).2.isSome):=cut_sp 10 (by_ s)
theorem one_size(s:ByteArray):(oneB s).size<=s.size:=by
 unfold oneB;rw[txt_size,size_by s];have:=(sp_take 10 (by_ s)).1;have h:=congrArg List.length this;rw[List.length_take]at h;omega
theorem rest_le(s:ByteArray):(restB s).size<=s.size:=by
 by_cases h:by_ s=[]
 ·unfold restB;rw[h,txt_size];exact Nat.zero_le _
 ·exact Nat.le_of_lt (rest_size h)
end Go.Proofs.YtkcnkimndhgkgaaGreatDoor.Ln
namespace Go.Proofs.YtkcnkimndhgkgaaGreatDoor
open Go.Ev Go.Lib Go.RowKit
def sNl:ByteArray:=⟨⟨[10]⟩⟩
def sSpc:ByteArray:=⟨⟨[32]⟩⟩
def spR(s:ByteArray):Row:=rowS (splS s sSpc)
def tlR(r:Row):Row:=winOf r 1 (r.n-1)
theorem winOf_S(r:Row)(e n j k:Nat):(winOf r e n).S j k=r.S (e+j) k:=by
 cases e
 ·show r.S j k=r.S (0+j) k;rw[AE]
 ·rfl
end Go.Proofs.YtkcnkimndhgkgaaGreatDoor
namespace Go.Ev
open Go.RowKit
variable{ρ:Map}
def bx0:Value:=.pointer (some ⟨0,0,some 0⟩)
def bx1:Value:=.pointer (some ⟨1,0,some 0⟩)
def frV:Value->Bool
 |.pointer (some ⟨0,0,some 0⟩)=>true
 |.pointer (some ⟨1,0,some 0⟩)=>true
 |.chan none=>true
 |.tuple xs=>xs.toList.all atom1
 |x=>plainV x
theorem frV_cases{x:Value}(h:frV x=true):x=bx0∨x=bx1∨x=.chan none∨(∃xs,x=.tuple xs∧xs.toList.all atom1=true)∨plainV x=true:=by
 unfold frV at h;split at h
 ·exact .inl rfl
 ·exact .inr (.inl rfl)
 ·exact .inr (.inr (.inl rfl))
 ·exact .inr (.inr (.inr (.inl ⟨_,rfl,h⟩)))
 ·exact .inr (.inr (.inr (.inr h)))
theorem ptr_det{N:Nat}{id e j:Nat}{L:Loc}{y y':Value}(hL:ρ id=some L)(h:V ρ N (.pointer (some ⟨id,e,some j⟩)) y)(h':V ρ N (.pointer (some ⟨id,e,some j⟩)) y'):y=y':=by
 cases h with
 |ptrDead _ h2=>rw[hL]at h2;cases h2
 |ptr _ h2 _=>
  cases h' with
  |ptrDead _ h3=>rw[hL]at h3;cases h3
  |ptr _ h3 _=>
   rw[h2]at h3;cases h3;rfl
theorem fr_keep{ρ1:Map}{N N1:Nat}{y0 y1:Value}{L0 L1:Loc}(h0:ρ 0=some L0)(h1:ρ 1=some L1)(a0:V ρ N bx0 y0)(a1:V ρ N bx1 y1)(b0:V ρ1 N1 bx0 y0)(b1:V ρ1 N1 bx1 y1){x y:Value}(hx:frV x=true)(hv:V ρ N x y):V ρ1 N1 x y:=by
 rcases frV_cases hx with rfl|rfl|rfl|⟨xs,rfl,h⟩|h
 ·rw[ptr_det h0 hv a0];exact b0
 ·rw[ptr_det h1 hv a1];exact b1
 ·exact .unk
 ·cases hv with
  |@tuple _ ys g1 g2=>
   refine .tuple g1 fun i x y hx hy=>?_;have hp:=List.all_eq_true.1 h x (by
    rw[<-Array.getElem?_toList]at hx;exact List.mem_of_getElem? hx)
   rw[(g2 i x y hx hy).atom1_eq hp];exact V.refl1 hp
 ·rw[hv.plain1 h];exact V.reflP h
theorem fr_tmp{ρ1:Map}{N N1:Nat}{y0 y1:Value}{L0 L1:Loc}(h0:ρ 0=some L0)(h1:ρ 1=some L1)(a0:V ρ N bx0 y0)(a1:V ρ N bx1 y1)(b0:V ρ1 N1 bx0 y0)(b1:V ρ1 N1 bx1 y1){τ:List Value}{ts:Array Value}(hx:τ.all frV=true)(hv:TmpR ρ N τ ts):TmpR ρ1 N1 τ ts:=
 ⟨hv.1,fun t x y hx' hy'=>fr_keep h0 h1 a0 a1 b0 b1 (List.all_eq_true.1 hx x (List.mem_of_getElem? hx')) (hv.2 t x y hx' hy')⟩
theorem fr_tmps{ρ1:Map}{N N1:Nat}{y0 y1:Value}{L0 L1:Loc}(h0:ρ 0=some L0)(h1:ρ 1=some L1)(a0:V ρ N bx0 y0)(a1:V ρ N bx1 y1)(b0:V ρ1 N1 bx0 y0)(b1:V ρ1 N1 bx1 y1):∀{τs:List (List Value)}{cs:List (Array Value)},(τs.all fun τ=>τ.all frV)=true->TmpsR ρ N τs cs->TmpsR ρ1 N1 τs cs
 |[],[],_,_=>trivial
 |τ::τs,c::cs,hx,hv=>by
  simp only[List.all_cons,A2]at hx;exact⟨fr_tmp h0 h1 a0 a1 b0 b1 hx.1 hv.1,fr_tmps h0 h1 a0 a1 b0 b1 hx.2 hv.2⟩
 |[],_::_,_,h=>h.elim
 |_::_,[],_,h=>h.elim
open Classical in
theorem iat_norm{C:Cx}{w0:World}(hC:CxAt C w0){d:Nat}{g:FuncId}{args:List Value}{mem mem1:List (Option Blk)}{v:Value}(hp:plainV v=true)
  (hev:∀J:Value->St->OD,inl C d g args {τ:=[bx0,bx1],saved:=[],mem:=mem} (fun v' σ'=>J v' (norm0 [0,1] σ'))=J v {τ:=[bx0,bx1],saved:=[],mem:=mem1})
  {σ:St} (hσ:σ.mem=mem) (hτ:σ.τ.all frV=true) (hs:(σ.saved.all fun τ=>τ.all frV)=true) {i0 i1:Nat} (h0:σ.τ[i0]? =some bx0) (h1:σ.τ[i1]? =some bx1) {b0 b1:Blk} (m0:mem[0]? =some (some b0)) (m1:mem[1]? =some (some b1))
  {a:Act} {cs:List (Array Value)} {w:World} {cargs:List Value} (hR:Rel w0 σ a cs w ρ) (hv:Vs ρ σ.mem.length args cargs):
  Calls C.P g ⟨cargs⟩ w fun e w'=>∃cv ρ1,e=.returned cv∧Rel w0 {σ with mem:=mem1} a cs w' ρ1∧V ρ1 mem1.length v cv:=by
 subst hσ;obtain⟨L0,hL0,-⟩:=hR.mem.blk 0 b0 m0;obtain⟨L1,hL1,-⟩:=hR.mem.blk 1 b1 m1;have z0:V ρ σ.mem.length bx0 (a.tmps.getD i0 undef):=by
  have:=hR.tmps.getD i0
  rwa [List.getD_eq_getElem?_getD,h0]at this
 have z1:V ρ σ.mem.length bx1 (a.tmps.getD i1 undef):=by
  have:=hR.tmps.getD i1
  rwa [List.getD_eq_getElem?_getD,h1]at this
 generalize a.tmps.getD i0 undef=y0 at z0;generalize a.tmps.getD i1 undef=y1 at z1;have hRe:Rel w0 {τ:=[bx0,bx1],saved:=[],mem:=σ.mem} {a with tmps:= #[y0,y1]} [] w ρ:=
  ⟨hR.defers,⟨rfl,fun t x y hx hy=>by
   match t,hx,hy with
   |0,hx,hy=>simp at hx hy;subst hx hy;exact z0
   |1,hx,hy=>simp at hx hy;subst hx hy;exact z1
   |t+2,hx,hy=>simp at hx⟩,trivial,hR.below,hR.mem⟩
 have hk:=hev fun v' σ'=>if v'=v∧σ'={τ:=[bx0,bx1],saved:=[],mem:=mem1}then some []else none;rw[AM ⟨rfl,rfl⟩]at hk;refine(inl_ok hC d g args _ _ _ hk _ _ w ρ cargs hRe hv).mono fun e w' ⟨cv,v',σ',ρ1,he,hR1,hV1,hk1⟩=>?_;split at hk1
 ·rename_i hh;obtain⟨rfl,hn⟩:=hh;obtain⟨ρ2,hR2⟩:=norm0_sound hR1 [0,1];rw[hn]at hR2;have t0:V ρ2 mem1.length bx0 y0:=hR2.tmps.2 0 _ _ rfl rfl;have t1:V ρ2 mem1.length bx1 y1:=hR2.tmps.2 1 _ _ rfl rfl;refine⟨cv,ρ2,he,⟨hR.defers,fr_tmp hL0 hL1 z0 z1 t0 t1 hτ hR.tmps,fr_tmps hL0 hL1 z0 z1 t0 t1 hs hR.saved,hR2.below,hR2.mem⟩,?_⟩;rw[hV1.plain1 hp];exact V.reflP hp
 ·cases hk1
end Go.Ev

import Derived.Test.YtnljjjghpgdmoaaGreatDoorXan
set_option linter.all false
namespace Go.Proofs.YtnljjjghpgdmoaaGreatDoor
open Go.Ev Go.Lib Go.RowKit
theorem iE(v:World):(Instr.index 73 (.agg #[.string sCake,.string sGoods,.string sRent,.string sSettle]) (.int .u8 (IntKind.u8.wrap 0))).run Tryz.prog v=.ok (.string sCake) v:=by kernel_rfl
structure CakeF(w2:World)(b:Nat)(ca pa wa:Option Addr)(cn cc pn pcp wn wcp cb co pb po wb wo:Nat)(ln:Nat->Int)(ub uo un uc db dO dn dc:Nat->Nat)(U Dv:Nat->Nat->Int)(sa va:Nat->Option Addr)(sb so sn sc vb vo vn vc:Nat->Nat)(S:Nat->Nat->Nat->Int)(Wq:Nat->Nat->Int×Int):Prop where
 hca:0<cn->ca=some ⟨cb,co,none⟩
 hcb:0<cn->cb<b
 hc:∀e,e<cn->w2.cell? ⟨cb,co+e*3,none⟩=some (.int .i64 (ln e))∧w2.cell? ⟨cb,co+e*3+1,none⟩=some (.slice (some ⟨ub e,uo e,none⟩) (un e) (uc e))∧w2.cell? ⟨cb,co+e*3+2,none⟩=some (.slice (some ⟨db e,dO e,none⟩) (dn e) (dc e))
 hu:∀e,e<cn->(0<un e∧un e+dn e<=900∧ub e<b∧∀j,j<un e->w2.cell? ⟨ub e,uo e+j,none⟩=some (.int .i64 (U e j)))∧(0<dn e∧dn e<=900∧db e<b∧∀j,j<dn e->w2.cell? ⟨db e,dO e+j,none⟩=some (.int .i64 (Dv e j)))
 hr1:∀e,iR (ln e)=true
 hr2:∀e j,iR (U e j)=true
 hr3:∀e j,iR (Dv e j)=true
 hcn:cn<=1000
 hpa:0<pn->pa=some ⟨pb,po,none⟩∧pb<b
 hps:∀e,e<pn->w2.cell? ⟨pb,po+e,none⟩=some (.slice (sa e) (sn e) (sc e))
 hsa:∀e,e<pn->sn e<=900∧(0<sn e->sa e=some ⟨sb e,so e,none⟩∧sb e<b)∧∀i,i<sn e->∀c,c<4->w2.cell? ⟨sb e,so e+i*4+c,none⟩=some (.int .i64 (S e i c))
 hwa:0<wn->wa=some ⟨wb,wo,none⟩∧wb<b
 hws:∀e,e<wn->w2.cell? ⟨wb,wo+e,none⟩=some (.slice (va e) (vn e) (vc e))
 hva:∀e,e<wn->vn e<=900∧(0<vn e->va e=some ⟨vb e,vo e,none⟩∧vb e<b)∧∀j,j<vn e->w2.cell? ⟨vb e,vo e+j*2,none⟩=some (.int .i64 (Wq e j).1)∧w2.cell? ⟨vb e,vo e+j*2+1,none⟩=some (.int .i64 (Wq e j).2)
 hr4:∀e i c,Rt.iR (S e i c)=true
 hr5:∀e j,iQ (Wq e j)=true
 hpn:pn<=1000
 hwn:wn<=1000
theorem CakeF.later{w w2:World}{n b:Nat}{ca pa wa:Option Addr}{cn cc pn pcp wn wcp cb co pb po wb wo:Nat}{ln:Nat->Int}{ub uo un uc db dO dn dc:Nat->Nat}{U Dv:Nat->Nat->Int}{sa va:Nat->Option Addr}{sb so sn sc vb vo vn vc:Nat->Nat}{S:Nat->Nat->Nat->Int}{Wq:Nat->Nat->Int×Int}(h:CakeF w n ca pa wa cn cc pn pcp wn wcp cb co pb po wb wo ln ub uo un uc db dO dn dc U Dv sa va sb so sn sc vb vo vn vc S Wq)(hb:Below n w w2)(hn:n<=b):CakeF w2 b ca pa wa cn cc pn pcp wn wcp cb co pb po wb wo ln ub uo un uc db dO dn dc U Dv sa va sb so sn sc vb vo vn vc S Wq where
 hca:=h.hca
 hcb:=fun h0=>Nat.lt_of_lt_of_le (h.hcb h0) hn
 hc:=fun e he=>by
  have hcb:=h.hcb (by omega);rw[hb.cell (p:=⟨cb,co+e*3,none⟩) hcb,hb.cell (p:=⟨cb,co+e*3+1,none⟩) hcb,hb.cell (p:=⟨cb,co+e*3+2,none⟩) hcb];exact h.hc e he
 hu:=fun e he=>by
  obtain⟨⟨a1,a2,a3,a4⟩,b1,b2,b3,b4⟩:=h.hu e he;exact⟨⟨a1,a2,by omega,fun j hj=>by rw[hb.cell (p:=⟨ub e,uo e+j,none⟩) a3];exact a4 j hj⟩,b1,b2,by omega,fun j hj=>by rw[hb.cell (p:=⟨db e,dO e+j,none⟩) b3];exact b4 j hj⟩
 hr1:=h.hr1
 hr2:=h.hr2
 hr3:=h.hr3
 hcn:=h.hcn
 hpa:=fun h0=>⟨(h.hpa h0).1,Nat.lt_of_lt_of_le (h.hpa h0).2 hn⟩
 hps:=fun e he=>by rw[hb.cell (p:=⟨pb,po+e,none⟩) (h.hpa (by omega)).2];exact h.hps e he
 hsa:=fun e he=>by
  obtain⟨a1,a2,a3⟩:=h.hsa e he;exact⟨a1,fun h0=>⟨(a2 h0).1,Nat.lt_of_lt_of_le (a2 h0).2 hn⟩,fun i hi c hc=>by rw[hb.cell (p:=⟨sb e,so e+i*4+c,none⟩) (a2 (by omega)).2];exact a3 i hi c hc⟩
 hwa:=fun h0=>⟨(h.hwa h0).1,Nat.lt_of_lt_of_le (h.hwa h0).2 hn⟩
 hws:=fun e he=>by rw[hb.cell (p:=⟨wb,wo+e,none⟩) (h.hwa (by omega)).2];exact h.hws e he
 hva:=fun e he=>by
  obtain⟨a1,a2,a3⟩:=h.hva e he;exact⟨a1,fun h0=>⟨(a2 h0).1,Nat.lt_of_lt_of_le (a2 h0).2 hn⟩,fun j hj=>by rw[hb.cell (p:=⟨vb e,vo e+j*2,none⟩) (a2 (by omega)).2,hb.cell (p:=⟨vb e,vo e+j*2+1,none⟩) (a2 (by omega)).2];exact a3 j hj⟩
 hr4:=h.hr4
 hr5:=h.hr5
 hpn:=h.hpn
 hwn:=h.hwn
def dvT(cn pn wn:Nat)(ln:Nat->Int)(un dn:Nat->Nat)(U Dv:Nat->Nat->Int)(sn vn:Nat->Nat)(S:Nat->Nat->Nat->Int)(Wq:Nat->Nat->Int×Int):List UInt8:=F6 sCake (fun e=>JH (ln e) (un e) (U e) (Dv e)) (fun e=>1+un e+dn e) cn++(Lt sPiece (fun e=>I4 (S e)) (fun e=>2*sn e) pn++Lt sWorth Wq vn wn)
def oV(cn pn wn:Nat)(ln:Nat->Int)(un dn:Nat->Nat)(U Dv:Nat->Nat->Int)(sn vn:Nat->Nat)(S:Nat->Nat->Nat->Int)(Wq:Nat->Nat->Int×Int)(c:Int):List UInt8:=Ir sCake++dvT cn pn wn ln un dn U Dv sn vn S Wq++Zn c
theorem CakeF.len{w2:World}{b:Nat}{ca pa wa:Option Addr}{cn cc pn pcp wn wcp cb co pb po wb wo:Nat}{ln:Nat->Int}{ub uo un uc db dO dn dc:Nat->Nat}{U Dv:Nat->Nat->Int}{sa va:Nat->Option Addr}{sb so sn sc vb vo vn vc:Nat->Nat}{S:Nat->Nat->Nat->Int}{Wq:Nat->Nat->Int×Int}(h:CakeF w2 b ca pa wa cn cc pn pcp wn wcp cb co pb po wb wo ln ub uo un uc db dO dn dc U Dv sa va sb so sn sc vb vo vn vc S Wq):(dvT cn pn wn ln un dn U Dv sn vn S Wq).length<=300000000:=by
 have h1:=Ie (word:=sCake) (x:=fun e=>JH (ln e) (un e) (U e) (Dv e)) (n:=fun e=>1+un e+dn e) (by decide) (fun e j=>SH (h.hr1 e) (h.hr2 e) (h.hr3 e) j) cn (fun e he=>by
  have:=(h.hu e he).1.2.1;show 1+un e+dn e<=1000;omega)
 have h2:=Ll (word:=sPiece) (x:=fun e=>I4 (S e)) (n:=fun e=>2*sn e) (by decide) (fun e j=>SS (h.hr4 e) j) pn (fun e he=>by
  have:=(h.hsa e he).1;show 2*sn e<=2000;omega)
 have h3:=Ll (word:=sWorth) (x:=Wq) (n:=vn) (by decide) h.hr5 wn (fun e he=>by have:=(h.hva e he).1;omega);have:=h.hcn;have:=h.hpn;have:=h.hwn;unfold dvT;rw[AG,AG];omega
theorem Afo{w2:World}{b:Nat}{L:List UInt8}{w:World}{ca pa wa:Option Addr}{cn cc pn pcp wn wcp cb co pb po wb wo:Nat}{ln:Nat->Int}{ub uo un uc db dO dn dc:Nat->Nat}{U Dv:Nat->Nat->Int}{sa va:Nat->Option Addr}{sb so sn sc vb vo vn vc:Nat->Nat}{S:Nat->Nat->Nat->Int}{Wq:Nat->Nat->Int×Int}(h:WrI w2 b L w)(hW:∀v,Below b w2 v->Wd v)(hb:b<=w2.heap.size)(hb2:b<w2.heap.size)(hF:CakeF w2 b ca pa wa cn cc pn pcp wn wcp cb co pb po wb wo ln ub uo un uc db dO dn dc U Dv sa va sb so sn sc vb vo vn vc S Wq)(c0 c3 c5 c6 c7 c8 c9 c10 c11 c12 c13 c14:Value)(hlen:L.length<=1000000):
  Calls Tryz.prog 21 #[.pointer (some ⟨b,0,none⟩),.agg #[c0,.slice ca cn cc,.slice pa pn pcp,c3,.slice wa wn wcp,c5,c6,c7,c8,c9,c10,c11,c12,c13,c14]] w fun e w'=>e=.returned (.tuple #[])∧WrI w2 b (L++dvT cn pn wn ln un dn U Dv sn vn S Wq) w':=
 (YJ h hW hb c0 c3 c5 c6 c7 c8 c9 c10 c11 c12 c13 c14 ca pa wa cn cc pn pcp wn wcp cb co pb po wb wo ln ub uo un uc db dO dn dc U Dv hb2 hF.hca hF.hcb hF.hc hF.hu hF.hr1 hF.hr2 hF.hr3 hF.hcn hlen sa va sb so sn sc vb vo vn vc S Wq hF.hpa hF.hps hF.hsa hF.hwa hF.hws hF.hva hF.hr4 hF.hr5 hF.hpn hF.hwn).mono fun e w' ⟨h1,h2⟩=>⟨h1,by unfold dvT;rw[<-List.append_assoc,<-List.append_assoc];exact h2⟩
set_option maxHeartbeats 4000000 in
set_option maxRecDepth 1000000 in
theorem Ws(w:World)(c5 c6 c7 c9 c10 c12 c13:Value)(pc rr ld cl:Int)(ca pa wa:Option Addr)(cn cc pn pcp wn wcp cb co pb po wb wo:Nat)(ln:Nat->Int)(ub uo un uc db dO dn dc:Nat->Nat)(U Dv:Nat->Nat->Int)(sa va:Nat->Option Addr)(sb so sn sc vb vo vn vc:Nat->Nat)(S:Nat->Nat->Nat->Int)(Wq:Nat->Nat->Int×Int)(ec:Int)
  (hchk:∀w',Below w.heap.size w w'->Calls Tryz.prog 10 #[.agg #[.int .u8 1,.slice ca cn cc,.slice pa pn pcp,.int .u8 pc,.slice wa wn wcp,c5,c6,c7,.int .i64 rr,c9,c10,.int .i64 ld,c12,c13,.int .u8 cl]] w' fun e w''=>e=.returned (.int .i64 ec)∧Below w'.heap.size w' w'')
  (hWd:∀w',Below w.heap.size w w'->Wd w') (hF:ec=0->CakeF w w.heap.size ca pa wa cn cc pn pcp wn wcp cb co pb po wb wo ln ub uo un uc db dO dn dc U Dv sa va sb so sn sc vb vo vn vc S Wq) (hc:ec=0->0<=pc∧pc<=255∧0<=cl∧cl<=255):
  Calls Tryz.prog 6 #[.agg #[.int .u8 1,.slice ca cn cc,.slice pa pn pcp,.int .u8 pc,.slice wa wn wcp,c5,c6,c7,.int .i64 rr,c9,c10,.int .i64 ld,c12,c13,.int .u8 cl]] w fun e w'=>e=.returned (.tuple #[.string (P9 ec (oV cn pn wn ln un dn U Dv sn vn S Wq (cl+pc))),.int .i64 (Me ec (oV cn pn wn ln un dn U Dv sn vn S Wq (cl+pc)))])∧Below w.heap.size w w':=by
 have mx:Tryz.prog.follows .mixedOrders=true:=mixed
 go_enter Tryz.func6,Tryz.ntmps6
 go_wp2_with (first|(go_at_call 10;refine(hchk _ ?_).mono ?_))
 ·exact(Below.refl _ w).alloc (AC _) _
 rintro e w1 ⟨rfl,hb1⟩;by_cases hec:ec=0
 rotate_left
 ·have hec2:(ec !=0)=true:=by simpa using hec
  go_wp2
  go_ret2
  unfold P9 Me;rw[hec2];exact⟨rfl,((Below.refl _ w).alloc (AC _) _).trans (hb1.mono (by simp))⟩
 ·have hF1:=hF hec;obtain⟨p0,p1,q0,q1⟩:=hc hec;subst hec;clear hF hc
  go_wp2
  have hb0:Below w.heap.size w w1:=((Below.refl _ w).alloc (AC _) _).trans (hb1.mono (Nat.le_of_lt (Be w _)));have hN:w.heap.size<w1.heap.size:=Nat.lt_of_lt_of_le (Be w _) hb1.size;have hbox:w1.heap[w.heap.size]? =some (.cells #[.int .u8 1,.slice ca cn cc,.slice pa pn pcp,.int .u8 pc,.slice wa wn wcp,c5,c6,c7,.int .i64 rr,c9,c10,.int .i64 ld,c12,c13,.int .u8 cl] 39 (0,0)):=by
   rw[hb1.block w.heap.size (Be w _)];exact BG w _
  obtain⟨w2,hw2⟩:∃w2,w2=w1.alloc (.cells #[.pointer none,.slice none 0 0] 68):=⟨_,rfl⟩;have hI0:WrI w2 w1.heap.size [] w2:=⟨Below.refl _ _,Lib.OthersKept.refl _ _ _,by rw[hw2];exact Lib.IsBuilderF.of (Lib.fresh_isBuilder 68 5 w1)⟩;have hb3:w1.heap.size<w2.heap.size:=by rw[hw2];exact Be w1 _
  have hb2:w1.heap.size<=w2.heap.size:=by rw[hw2];exact Nat.le_of_lt (Be w1 _)
  have hbel2:∀k,k<w1.heap.size->w2.heap[k]? =w1.heap[k]? :=fun k hk=>by rw[hw2];exact Below.heap_alloc w1 _ k hk
  have hbox2:∀v,Below w1.heap.size w2 v->v.heap[w.heap.size]? =some (.cells #[.int .u8 1,.slice ca cn cc,.slice pa pn pcp,.int .u8 pc,.slice wa wn wcp,c5,c6,c7,.int .i64 rr,c9,c10,.int .i64 ld,c12,c13,.int .u8 cl] 39 (0,0)):=fun v hv=>by
   rw[hv.block _ hN,hbel2 _ hN];exact hbox
  have hbv:∀v,Below w1.heap.size w2 v->Below w.heap.size w v:=fun v hv=>hb0.trans (((Below.refl _ w1).alloc (AC _) _).trans (hw2▸hv)|>.mono (by omega));have hW2:∀v,Below w1.heap.size w2 v->Wd v:=fun v hv=>hWd v (hbv v hv);rw[<-hw2];clear hw2 hbel2;generalize hbb:w1.heap.size=b at*
  obtain⟨Cq,hq1,hq2⟩:∃Cq:World->Prop,(∀v,Cq v->WrI w2 b [] v)∧∀v,WrI w2 b [] v->Cq v:=⟨fun v=>WrI w2 b [] v,fun _ h=>h,fun _ h=>h⟩;refine Bg (C:=Cq) 10 mx (by kernel_rfl) (hq2 w2.drew hI0.drew) ?_;have hq:Hid (∀v,Cq v->WrI w2 b [] v):=hq1;have hcall:∀v,Cq v->Calls Tryz.prog 20 #[] v fun e w'=>e=.returned (.agg #[.string sCake,.string sGoods,.string sRent,.string sSettle])∧Cq w':=fun v hv=>(NS (hq1 v hv) hb2).mono fun e w' ⟨he,h⟩=>⟨he,hq2 _ h⟩;have hcl:Hid (∀v,Cq v->Calls Tryz.prog 20 #[] v fun e w'=>e=.returned (.agg #[.string sCake,.string sGoods,.string sRent,.string sSettle])∧Cq w'):=hcall;have hld:Hid (∀v,Cq v->v.cell? ⟨w.heap.size,0,none⟩=some (.int .u8 1)):=fun v hv=>by rw[Lib.cell_of_heap (hbox2 v (hq1 v hv).bel)];rfl
  have hFh:Hid (CakeF w w.heap.size ca pa wa cn cc pn pcp wn wcp cb co pb po wb wo ln ub uo un uc db dO dn dc U Dv sa va sb so sn sc vb vo vn vc S Wq):=hF1;clear hq1 hq2 hcall hchk hF1;dsimp only[List.take,List.drop];refine wpQuiet_step (fun K hK=>?_)
  go_simp
  refine⟨_,fun v hv=>rfl,hK _ ?_⟩;clear hK K;refine wpQuiet_step (fun K hK=>?_)
  go_simp
  refine⟨_,fun v hv=>rfl,hK _ ?_⟩;clear hK K;refine wpQuiet_step (fun K hK=>?_)
  go_simp
  refine⟨_,fun v hv=>rfl,hK _ ?_⟩;clear hK K;refine wpQuiet_step (fun K hK=>?_)
  go_simp
  refine⟨.agg #[.string sCake,.string sGoods,.string sRent,.string sSettle],fun v hv=>(show∀v,Cq v->Calls Tryz.prog 20 #[] v fun e w'=>e=.returned (.agg #[.string sCake,.string sGoods,.string sRent,.string sSettle])∧Cq w' from hcl) v hv,hK _ ?_⟩;clear hK K;refine wpQuiet_step (fun K hK=>?_)
  go_simp
  refine⟨_,fun v hv=>rfl,hK _ ?_⟩;clear hK K;refine wpQuiet_step (fun K hK=>?_)
  go_simp
  refine⟨.int .u8 1,fun v hv=>?_,hK _ ?_⟩
  ·rw[(show∀v,Cq v->v.cell? ⟨w.heap.size,0,none⟩=some (.int .u8 1)from hld) v hv];exact⟨rfl,rfl⟩
  clear hK K;refine wpQuiet_step (fun K hK=>?_)
  go_simp
  refine⟨_,fun v hv=>rfl,hK _ ?_⟩;clear hK K;refine wpQuiet_step (fun K hK=>?_)
  go_simp
  refine⟨.string sCake,fun v hv=>?_,hK _ ?_⟩
  ·rw[iE v];exact⟨rfl,rfl⟩
  clear hK K;refine wpQuiet_step (fun K hK=>?_)
  go_simp
  refine⟨.string (sDocument++sCake),fun v hv=>?_,hK _ ?_⟩
  ·rw[AL (show¬9223372036854775807<9+sCake.size by have:sCake.size=4:=rfl;omega)];exact⟨rfl,rfl⟩
  clear hK K;refine wpQuiet_step (fun K hK=>?_)
  go_simp
  refine⟨.string (sDocument++sCake++⟨#[10]⟩),fun v hv=>?_,hK _ ?_⟩
  ·rw[AL (show¬9223372036854775807<sDocument.size+sCake.size+1 by have:sCake.size=4:=rfl;have:sDocument.size=9:=rfl;omega)];exact⟨rfl,rfl⟩
  clear hK K;refine wpQuiet_nil ?_;intro w3 h3;have h3':WrI w2 b [] w3:=(show∀v,Cq v->WrI w2 b [] v from hq) w3 h3;have hsz:([]:List UInt8).length+(sDocument++sCake++⟨#[10]⟩).size<=140737488355328:=by decide
  have hS:[]++Ae (sDocument++sCake++⟨#[10]⟩)=Ir sCake:=by rw[Ee,Ee];rfl
  generalize sDocument++sCake++⟨#[10]⟩=Sx at*
  clear hq hcl hld h3
  go_wp2_with (first|(go_at_call 19;refine(NP h3' hb2 Sx hsz).mono ?_))
  rintro e w4 ⟨rfl,h4⟩;rw[hS]at h4;clear hS hsz h3';have hh2:Hid (∀v,Below b w2 v->v.heap[w.heap.size]? =some (.cells #[.int .u8 1,.slice ca cn cc,.slice pa pn pcp,.int .u8 pc,.slice wa wn wcp,c5,c6,c7,.int .i64 rr,c9,c10,.int .i64 ld,c12,c13,.int .u8 cl] 39 (0,0))):=hbox2;have hF2:CakeF w2 b ca pa wa cn cc pn pcp wn wcp cb co pb po wb wo ln ub uo un uc db dO dn dc U Dv sa va sb so sn sc vb vo vn vc S Wq:=(show CakeF w w.heap.size ca pa wa cn cc pn pcp wn wcp cb co pb po wb wo ln ub uo un uc db dO dn dc U Dv sa va sb so sn sc vb vo vn vc S Wq from hFh).later (hbv w2 (Below.refl _ _)) (by omega);have hb4:=hbox2 w4 h4.bel;have f0:w4.cell? ⟨w.heap.size,0,none⟩=some (.int .u8 1):=by rw[Lib.cell_of_heap hb4];rfl
  have f1:w4.cell? ⟨w.heap.size,1,none⟩=some (.slice ca cn cc):=by rw[Lib.cell_of_heap hb4];rfl
  have f2:w4.cell? ⟨w.heap.size,2,none⟩=some (.slice pa pn pcp):=by rw[Lib.cell_of_heap hb4];rfl
  have f3:w4.cell? ⟨w.heap.size,3,none⟩=some (.int .u8 pc):=by rw[Lib.cell_of_heap hb4];rfl
  have f4:w4.cell? ⟨w.heap.size,4,none⟩=some (.slice wa wn wcp):=by rw[Lib.cell_of_heap hb4];rfl
  have f5:w4.cell? ⟨w.heap.size,5,none⟩=some (c5):=by rw[Lib.cell_of_heap hb4];rfl
  have f6:w4.cell? ⟨w.heap.size,6,none⟩=some (c6):=by rw[Lib.cell_of_heap hb4];rfl
  have f7:w4.cell? ⟨w.heap.size,7,none⟩=some (c7):=by rw[Lib.cell_of_heap hb4];rfl
  have f8:w4.cell? ⟨w.heap.size,8,none⟩=some (.int .i64 rr):=by rw[Lib.cell_of_heap hb4];rfl
  have f9:w4.cell? ⟨w.heap.size,9,none⟩=some (c9):=by rw[Lib.cell_of_heap hb4];rfl
  have f10:w4.cell? ⟨w.heap.size,10,none⟩=some (c10):=by rw[Lib.cell_of_heap hb4];rfl
  have f11:w4.cell? ⟨w.heap.size,11,none⟩=some (.int .i64 ld):=by rw[Lib.cell_of_heap hb4];rfl
  have f12:w4.cell? ⟨w.heap.size,12,none⟩=some (c12):=by rw[Lib.cell_of_heap hb4];rfl
  have f13:w4.cell? ⟨w.heap.size,13,none⟩=some (c13):=by rw[Lib.cell_of_heap hb4];rfl
  have f14:w4.cell? ⟨w.heap.size,14,none⟩=some (.int .u8 cl):=by rw[Lib.cell_of_heap hb4];rfl
  obtain⟨LL,hLL⟩:∃LL,Hid (LL=Ir sCake++dvT cn pn wn ln un dn U Dv sn vn S Wq):=⟨_,rfl⟩;have hlL:Hid (LL.length<=400000000):=by
   show _<=_;rw[show LL=_ from hLL,AG];have h1:=hF2.len;have h2:(Ir sCake).length<=100:=by decide
   omega
  have hct:=Afo h4 hW2 hb2 hb3 hF2 (.int .u8 1) (.int .u8 pc) c5 c6 c7 (.int .i64 rr) c9 c10 (.int .i64 ld) c12 c13 (.int .u8 cl) (by decide);rw[<-show LL=_ from hLL]at hct;have hbx:Hid (∀v L,WrI w2 b L v->v.cell? ⟨w.heap.size,14,none⟩=some (.int .u8 cl)∧v.cell? ⟨w.heap.size,3,none⟩=some (.int .u8 pc)):=fun v L hv=>by
   rw[Lib.cell_of_heap (hbox2 v hv.bel),Lib.cell_of_heap (hbox2 v hv.bel)];exact⟨rfl,rfl⟩
  clear hb4 hF2 hbox hb1 hFh hI0 h4 hbox2
  go_wp2_with (first|(go_at_call 21;refine hct.mono ?_))
  rintro e w6 ⟨rfl,h6⟩;clear hct f0 f1 f2 f3 f4 f5 f6 f7 f8 f9 f10 f11 f12 f13 f14;have i1:∀j:Nat,iR ((fun _:Nat=>cl+pc) j)=true:=fun j=>iR_iff.2 ⟨by dsimp only;omega,by dsimp only;omega⟩;have i2:Hid (∀j,j<1->(#[Value.int .i64 (cl+pc)]:Array Value)[j]? =some (.int .i64 ((fun _:Nat=>cl+pc) j))):=fun j hj=>by
   have:j=0:=by omega
   subst this;rfl
  have i3':LL.length+sClaims.size+1*22<=1000000000000:=by
   have h1:LL.length<=400000000:=hlL;have h3:sClaims.size=6:=rfl;omega
  have hT2:Hid (LL++Ae sClaims++BR (fun _=>cl+pc) 1++[10]=oV cn pn wn ln un dn U Dv sn vn S Wq (cl+pc)):=by
   show _=_;rw[show LL=_ from hLL,oV];simp only[Zn,List.append_assoc]
  have f0:Hid (b<w2.heap.size):=hb3;clear hb3;obtain⟨f14,f3⟩:=(show∀v L,WrI w2 b L v->v.cell? ⟨w.heap.size,14,none⟩=some (.int .u8 cl)∧v.cell? ⟨w.heap.size,3,none⟩=some (.int .u8 pc)from hbx) w6 _ h6;have i4:w6.heap.size≠b:=by have:=h6.bel.size;have h:b<w2.heap.size:=f0;omega
  have h6a:=h6.alloc hb2 (.cells #[.int .i64 (cl+pc)] 3);have h6n:Hid ((w6.alloc (.cells #[.int .i64 (cl+pc)] 3)).heap[w6.heap.size]? =some (.cells #[.int .i64 (cl+pc)] 3 (0,0))):=BG w6 _
  go_wp2_with (first|(go_at_call 22;refine(GZ h6a hW2 hb2 sClaims w6.heap.size 1 1 (fun _=>cl+pc) #[.int .i64 (cl+pc)] (0,0) i1 i4 h6n i2 i3').mono ?_))
  rintro e w7 ⟨rfl,h7⟩;obtain⟨T,hT⟩:∃T,T=LL++Ae sClaims++BR (fun _=>cl+pc) 1++[10]:=⟨_,rfl⟩;rw[<-hT]at h7;have hT3:Hid (oV cn pn wn ln un dn U Dv sn vn S Wq (cl+pc)=T):=by
   show _=_;rw[hT];exact(show LL++Ae sClaims++BR (fun _=>cl+pc) 1++[10]=oV cn pn wn ln un dn U Dv sn vn S Wq (cl+pc)from hT2).symm
  have hne:T≠[]:=by rw[hT];simp
  have hbz:Below w.heap.size w w7:=hbv w7 h7.bel;clear hT hT2 f14 f3 h6 h6a h6n i1 i2 i3' i4 hbx
  go_wp2_with (first|(go_at_call 23;refine(Rq b b T _ h7.bld).mono ?_))
  rintro e w8 ⟨rfl,rfl⟩;have hfin:Hid (∀v,Below b w8 v->Below w.heap.size w v):=fun v hv=>hbz.trans (hv.mono (by omega));by_cases hbig:60000<T.length
  ·have hdb:decide (60000<T.length)=true:=A4 hbig;have hd2:Hid (decide (60000<T.length)=true):=hdb;clear hdb
   go_wp2
   go_ret2
   rw[show oV cn pn wn ln un dn U Dv sn vn S Wq (cl+pc)=T from hT3];unfold P9 Me;rw[show decide (60000<T.length)=true from hd2];exact⟨rfl,hbz⟩
  ·have hd2:Hid (decide (60000<T.length)=false):=AB hbig
   go_wp2_with (first|(go_at_call 24;refine(NH b b T _ h7.bld hne).mono ?_))
   rintro e w9 ⟨rfl,h9⟩
   go_wp2
   go_ret2
   rw[show oV cn pn wn ln un dn U Dv sn vn S Wq (cl+pc)=T from hT3];unfold P9 Me;rw[show decide (60000<T.length)=false from hd2];exact⟨rfl,(show∀v,Below b w8 v->Below w.heap.size w v from hfin) w9 h9⟩
theorem Z7(v:World):(Instr.index 73 (.agg #[.string sCake,.string sGoods,.string sRent,.string sSettle]) (.int .u8 (IntKind.u8.wrap 2))).run Tryz.prog v=.ok (.string sRent) v:=by kernel_rfl
def sRooms:ByteArray:=⟨⟨[114,111,111,109,115]⟩⟩
def sPrices:ByteArray:=⟨⟨[112,114,105,99,101,115]⟩⟩
structure RentF(w2:World)(b:Nat)(ga ra qa:Option Addr)(gn gc gb goff rn rc rb ro qn qc qb qo:Nat)(xa:Nat->Option Addr)(xb xo xn xc:Nat->Nat)(X:Nat->Nat->Int)(R Q:Nat->Int)(rr ld:Int):Prop where
 hga:0<gn->ga=some ⟨gb,goff,none⟩∧gb<b
 hg:∀e,e<gn->w2.cell? ⟨gb,goff+e,none⟩=some (.slice (xa e) (xn e) (xc e))
 hx:∀e,e<gn->xn e<=1000∧(0<xn e->xa e=some ⟨xb e,xo e,none⟩∧xb e<b)∧∀j,j<xn e->w2.cell? ⟨xb e,xo e+j,none⟩=some (.int .i64 (X e j))
 hra:0<rn->ra=some ⟨rb,ro,none⟩∧rb<b
 hr:∀j,j<rn->w2.cell? ⟨rb,ro+j,none⟩=some (.int .i64 (R j))
 hqa:qa=some ⟨qb,qo,none⟩∧qb<b∧0<qn
 hq:∀j,j<qn->w2.cell? ⟨qb,qo+j,none⟩=some (.int .i64 (Q j))
 hX:∀e j,iR (X e j)=true
 hR:∀j,iR (R j)=true
 hQ:∀j,iR (Q j)=true
 hrr:iR rr=true
 hld:iR ld=true
 hgn:gn<=1000
 hrn:rn<=1000
 hqn:qn<=1000
theorem RentF.later{w w2:World}{n b:Nat}{ga ra qa:Option Addr}{gn gc gb goff rn rc rb ro qn qc qb qo:Nat}{xa:Nat->Option Addr}{xb xo xn xc:Nat->Nat}{X:Nat->Nat->Int}{R Q:Nat->Int}{rr ld:Int}(h:RentF w n ga ra qa gn gc gb goff rn rc rb ro qn qc qb qo xa xb xo xn xc X R Q rr ld)(hb:Below n w w2)(hn:n<=b):RentF w2 b ga ra qa gn gc gb goff rn rc rb ro qn qc qb qo xa xb xo xn xc X R Q rr ld where
 hga:=fun h0=>⟨(h.hga h0).1,Nat.lt_of_lt_of_le (h.hga h0).2 hn⟩
 hg:=fun e he=>by rw[hb.cell (p:=⟨gb,goff+e,none⟩) (h.hga (by omega)).2];exact h.hg e he
 hx:=fun e he=>by
  obtain⟨a1,a2,a3⟩:=h.hx e he;exact⟨a1,fun h0=>⟨(a2 h0).1,Nat.lt_of_lt_of_le (a2 h0).2 hn⟩,fun j hj=>by rw[hb.cell (p:=⟨xb e,xo e+j,none⟩) (a2 (by omega)).2];exact a3 j hj⟩
 hra:=fun h0=>⟨(h.hra h0).1,Nat.lt_of_lt_of_le (h.hra h0).2 hn⟩
 hr:=fun j hj=>by rw[hb.cell (p:=⟨rb,ro+j,none⟩) (h.hra (by omega)).2];exact h.hr j hj
 hqa:=⟨h.hqa.1,Nat.lt_of_lt_of_le h.hqa.2.1 hn,h.hqa.2.2⟩
 hq:=fun j hj=>by rw[hb.cell (p:=⟨qb,qo+j,none⟩) h.hqa.2.1];exact h.hq j hj
 hX:=h.hX
 hR:=h.hR
 hQ:=h.hQ
 hrr:=h.hrr
 hld:=h.hld
 hgn:=h.hgn
 hrn:=h.hrn
 hqn:=h.hqn
def Zq(ld:Int)(Q:Nat->Int)(j:Nat):Int:=if j=0 then ld else Q (j-1)
def pF(rr:Int)(X:Nat->Nat->Int)(xn:Nat->Nat)(gn:Nat)(R:Nat->Int)(rn:Nat)(ld:Int)(Q:Nat->Int)(qn:Nat)(c:Int):List UInt8:=Ir sRent++(Ae sRent++BR (fun _=>rr) 1++[10])++F6 sValues X xn gn++(Ae sRooms++BR R rn++[10])++(Ae sPrices++BR (Zq ld Q) (1+qn)++[10])++Zn c
theorem gV{ld:Int}{Q:Nat->Int}(h1:iR ld=true)(h2:∀j,iR (Q j)=true)(j:Nat):iR (Zq ld Q j)=true:=by
 unfold Zq;split
 ·exact h1
 ·exact h2 _
theorem YU{w7:World}{base g cap qn:Nat}{x:Int}{Q:Nat->Int}(hown:w7.ownsRow base 3 1 (.slice (some ⟨g,0,none⟩) (1+qn) cap) (1+qn) ([Value.int .i64 x]++(List.range qn).map (fun i=>Value.int .i64 (Q i)))){b:Nat}(hgb:g≠b):
  ∀w',Below b w7 w'->Lib.OthersKept 5 (some b) w7 w'->∀j,j<1+qn->w'.cell? ⟨g,0+j,none⟩=some (.int .i64 (Zq x Q j)):=by
 intro w' h1 h2 j hj;have h3:=OO (w7:=w7) (base:=base) (g:=g) (cap:=cap) (un:=qn) (dn:=0) (x:=x) (U:=Q) (Dv:=Q) (by simpa using hown) hgb w' h1 h2 j (by omega);rw[h3];unfold JH Zq;by_cases h0:j=0
 ·rw[AM h0,AM h0]
 ·rw[AL h0,AL h0,AM (by omega)]
set_option maxHeartbeats 4000000 in
set_option maxRecDepth 1000000 in
theorem VY(w:World)(c1 c2 c4 c5 c6 c12 c13:Value)(pc rr ld cl:Int)(ga ra qa:Option Addr)(gn gc gb goff rn rc rb ro qn qc qb qo:Nat)(xa:Nat->Option Addr)(xb xo xn xc:Nat->Nat)(X:Nat->Nat->Int)(R Q:Nat->Int)(ec:Int)
  (hchk:∀w',Below w.heap.size w w'->Calls Tryz.prog 10 #[.agg #[.int .u8 3,c1,c2,.int .u8 pc,c4,c5,c6,.slice ga gn gc,.int .i64 rr,.slice ra rn rc,.slice qa qn qc,.int .i64 ld,c12,c13,.int .u8 cl]] w' fun e w''=>e=.returned (.int .i64 ec)∧Below w'.heap.size w' w'')
  (hWd:∀w',Below w.heap.size w w'->Wd w') (hF:ec=0->RentF w w.heap.size ga ra qa gn gc gb goff rn rc rb ro qn qc qb qo xa xb xo xn xc X R Q rr ld) (hc:ec=0->0<=pc∧pc<=255∧0<=cl∧cl<=255):
  Calls Tryz.prog 6 #[.agg #[.int .u8 3,c1,c2,.int .u8 pc,c4,c5,c6,.slice ga gn gc,.int .i64 rr,.slice ra rn rc,.slice qa qn qc,.int .i64 ld,c12,c13,.int .u8 cl]] w fun e w'=>e=.returned (.tuple #[.string (P9 ec (pF rr X xn gn R rn ld Q qn (cl+pc))),.int .i64 (Me ec (pF rr X xn gn R rn ld Q qn (cl+pc)))])∧Below w.heap.size w w':=by
 have mx:Tryz.prog.follows .mixedOrders=true:=mixed
 go_enter Tryz.func6,Tryz.ntmps6
 go_wp2_with (first|(go_at_call 10;refine(hchk _ ?_).mono ?_))
 ·exact(Below.refl _ w).alloc (AC _) _
 rintro e w1 ⟨rfl,hb1⟩;by_cases hec:ec=0
 rotate_left
 ·have hec2:(ec !=0)=true:=by simpa using hec
  go_wp2
  go_ret2
  unfold P9 Me;rw[hec2];exact⟨rfl,((Below.refl _ w).alloc (AC _) _).trans (hb1.mono (by simp))⟩
 ·have hF1:=hF hec;obtain⟨p0,p1,q0,q1⟩:=hc hec;subst hec;clear hF hc
  go_wp2
  have hb0:Below w.heap.size w w1:=((Below.refl _ w).alloc (AC _) _).trans (hb1.mono (Nat.le_of_lt (Be w _)));have hN:w.heap.size<w1.heap.size:=Nat.lt_of_lt_of_le (Be w _) hb1.size;have hbox:w1.heap[w.heap.size]? =some (.cells #[.int .u8 3,c1,c2,.int .u8 pc,c4,c5,c6,.slice ga gn gc,.int .i64 rr,.slice ra rn rc,.slice qa qn qc,.int .i64 ld,c12,c13,.int .u8 cl] 39 (0,0)):=by
   rw[hb1.block w.heap.size (Be w _)];exact BG w _
  obtain⟨w2,hw2⟩:∃w2,w2=w1.alloc (.cells #[.pointer none,.slice none 0 0] 68):=⟨_,rfl⟩;have hI0:WrI w2 w1.heap.size [] w2:=⟨Below.refl _ _,Lib.OthersKept.refl _ _ _,by rw[hw2];exact Lib.IsBuilderF.of (Lib.fresh_isBuilder 68 5 w1)⟩;have hb3:w1.heap.size<w2.heap.size:=by rw[hw2];exact Be w1 _
  have hb2:w1.heap.size<=w2.heap.size:=by rw[hw2];exact Nat.le_of_lt (Be w1 _)
  have hbel2:∀k,k<w1.heap.size->w2.heap[k]? =w1.heap[k]? :=fun k hk=>by rw[hw2];exact Below.heap_alloc w1 _ k hk
  have hbox2:∀v,Below w1.heap.size w2 v->v.heap[w.heap.size]? =some (.cells #[.int .u8 3,c1,c2,.int .u8 pc,c4,c5,c6,.slice ga gn gc,.int .i64 rr,.slice ra rn rc,.slice qa qn qc,.int .i64 ld,c12,c13,.int .u8 cl] 39 (0,0)):=fun v hv=>by
   rw[hv.block _ hN,hbel2 _ hN];exact hbox
  have hbv:∀v,Below w1.heap.size w2 v->Below w.heap.size w v:=fun v hv=>hb0.trans (((Below.refl _ w1).alloc (AC _) _).trans (hw2▸hv)|>.mono (by omega));have hW2:∀v,Below w1.heap.size w2 v->Wd v:=fun v hv=>hWd v (hbv v hv);rw[<-hw2];clear hw2 hbel2;generalize hbb:w1.heap.size=b at*
  obtain⟨Cq,hq1,hq2⟩:∃Cq:World->Prop,(∀v,Cq v->WrI w2 b [] v)∧∀v,WrI w2 b [] v->Cq v:=⟨fun v=>WrI w2 b [] v,fun _ h=>h,fun _ h=>h⟩;refine Bg (C:=Cq) 10 mx (by kernel_rfl) (hq2 w2.drew hI0.drew) ?_;have hq:Hid (∀v,Cq v->WrI w2 b [] v):=hq1;have hcall:∀v,Cq v->Calls Tryz.prog 20 #[] v fun e w'=>e=.returned (.agg #[.string sCake,.string sGoods,.string sRent,.string sSettle])∧Cq w':=fun v hv=>(NS (hq1 v hv) hb2).mono fun e w' ⟨he,h⟩=>⟨he,hq2 _ h⟩;have hcl:Hid (∀v,Cq v->Calls Tryz.prog 20 #[] v fun e w'=>e=.returned (.agg #[.string sCake,.string sGoods,.string sRent,.string sSettle])∧Cq w'):=hcall;have hld:Hid (∀v,Cq v->v.cell? ⟨w.heap.size,0,none⟩=some (.int .u8 3)):=fun v hv=>by rw[Lib.cell_of_heap (hbox2 v (hq1 v hv).bel)];rfl
  have hFh:Hid (RentF w w.heap.size ga ra qa gn gc gb goff rn rc rb ro qn qc qb qo xa xb xo xn xc X R Q rr ld):=hF1;clear hq1 hq2 hcall hchk hF1;dsimp only[List.take,List.drop];refine wpQuiet_step (fun K hK=>?_)
  go_simp
  refine⟨_,fun v hv=>rfl,hK _ ?_⟩;clear hK K;refine wpQuiet_step (fun K hK=>?_)
  go_simp
  refine⟨_,fun v hv=>rfl,hK _ ?_⟩;clear hK K;refine wpQuiet_step (fun K hK=>?_)
  go_simp
  refine⟨_,fun v hv=>rfl,hK _ ?_⟩;clear hK K;refine wpQuiet_step (fun K hK=>?_)
  go_simp
  refine⟨.agg #[.string sCake,.string sGoods,.string sRent,.string sSettle],fun v hv=>(show∀v,Cq v->Calls Tryz.prog 20 #[] v fun e w'=>e=.returned (.agg #[.string sCake,.string sGoods,.string sRent,.string sSettle])∧Cq w' from hcl) v hv,hK _ ?_⟩;clear hK K;refine wpQuiet_step (fun K hK=>?_)
  go_simp
  refine⟨_,fun v hv=>rfl,hK _ ?_⟩;clear hK K;refine wpQuiet_step (fun K hK=>?_)
  go_simp
  refine⟨.int .u8 3,fun v hv=>?_,hK _ ?_⟩
  ·rw[(show∀v,Cq v->v.cell? ⟨w.heap.size,0,none⟩=some (.int .u8 3)from hld) v hv];exact⟨rfl,rfl⟩
  clear hK K;refine wpQuiet_step (fun K hK=>?_)
  go_simp
  refine⟨_,fun v hv=>rfl,hK _ ?_⟩;clear hK K;refine wpQuiet_step (fun K hK=>?_)
  go_simp
  refine⟨.string sRent,fun v hv=>?_,hK _ ?_⟩
  ·rw[Z7 v];exact⟨rfl,rfl⟩
  clear hK K;refine wpQuiet_step (fun K hK=>?_)
  go_simp
  refine⟨.string (sDocument++sRent),fun v hv=>?_,hK _ ?_⟩
  ·rw[AL (show¬9223372036854775807<9+sRent.size by have:sRent.size=4:=rfl;omega)];exact⟨rfl,rfl⟩
  clear hK K;refine wpQuiet_step (fun K hK=>?_)
  go_simp
  refine⟨.string (sDocument++sRent++⟨#[10]⟩),fun v hv=>?_,hK _ ?_⟩
  ·rw[AL (show¬9223372036854775807<sDocument.size+sRent.size+1 by have:sRent.size=4:=rfl;have:sDocument.size=9:=rfl;omega)];exact⟨rfl,rfl⟩
  clear hK K;refine wpQuiet_nil ?_;intro w3 h3;have h3':WrI w2 b [] w3:=(show∀v,Cq v->WrI w2 b [] v from hq) w3 h3;have hsz:([]:List UInt8).length+(sDocument++sRent++⟨#[10]⟩).size<=140737488355328:=by decide
  have hS:[]++Ae (sDocument++sRent++⟨#[10]⟩)=Ir sRent:=by rw[Ee,Ee];rfl
  generalize sDocument++sRent++⟨#[10]⟩=Sx at*
  clear hq hcl hld h3
  go_wp2_with (first|(go_at_call 19;refine(NP h3' hb2 Sx hsz).mono ?_))
  rintro e w4 ⟨rfl,h4⟩;rw[hS]at h4;clear hS hsz h3';have hh2:Hid (∀v,Below b w2 v->v.heap[w.heap.size]? =some (.cells #[.int .u8 3,c1,c2,.int .u8 pc,c4,c5,c6,.slice ga gn gc,.int .i64 rr,.slice ra rn rc,.slice qa qn qc,.int .i64 ld,c12,c13,.int .u8 cl] 39 (0,0))):=hbox2;obtain⟨q1,q2,q3,q4,q5,q6,q7,q8,q9,q10,q11,q12,q13,q14,q15⟩:=(show RentF w w.heap.size ga ra qa gn gc gb goff rn rc rb ro qn qc qb qo xa xb xo xn xc X R Q rr ld from hFh).later (hbv w2 (Below.refl _ _)) (show w.heap.size<=b by omega);have hb4:=hbox2 w4 h4.bel;have g0:w4.cell? ⟨w.heap.size,0,none⟩=some (.int .u8 3):=by rw[Lib.cell_of_heap hb4];rfl
  have g8:w4.cell? ⟨w.heap.size,8,none⟩=some (.int .i64 rr):=by rw[Lib.cell_of_heap hb4];rfl
  have hbx:Hid (∀v L,WrI w2 b L v->v.cell? ⟨w.heap.size,14,none⟩=some (.int .u8 cl)∧v.cell? ⟨w.heap.size,3,none⟩=some (.int .u8 pc)):=fun v L hv=>by
   rw[Lib.cell_of_heap (hbox2 v hv.bel),Lib.cell_of_heap (hbox2 v hv.bel)];exact⟨rfl,rfl⟩
  have hby:Hid (∀v L,WrI w2 b L v->v.cell? ⟨w.heap.size,7,none⟩=some (.slice ga gn gc)∧v.cell? ⟨w.heap.size,9,none⟩=some (.slice ra rn rc)∧v.cell? ⟨w.heap.size,10,none⟩=some (.slice qa qn qc)∧v.cell? ⟨w.heap.size,11,none⟩=some (.int .i64 ld)):=fun v L hv=>by
   rw[Lib.cell_of_heap (hbox2 v hv.bel),Lib.cell_of_heap (hbox2 v hv.bel),Lib.cell_of_heap (hbox2 v hv.bel),Lib.cell_of_heap (hbox2 v hv.bel)];exact⟨rfl,rfl,rfl,rfl⟩
  have q1h:Hid (0<gn->ga=some ⟨gb,goff,none⟩∧gb<b):=q1;have q2h:Hid (∀e,e<gn->w2.cell? ⟨gb,goff+e,none⟩=some (.slice (xa e) (xn e) (xc e))):=q2;have q3h:Hid (∀e,e<gn->xn e<=1000∧(0<xn e->xa e=some ⟨xb e,xo e,none⟩∧xb e<b)∧∀j,j<xn e->w2.cell? ⟨xb e,xo e+j,none⟩=some (.int .i64 (X e j))):=q3;have q4h:Hid (0<rn->ra=some ⟨rb,ro,none⟩∧rb<b):=q4;have q5h:Hid (∀j,j<rn->w2.cell? ⟨rb,ro+j,none⟩=some (.int .i64 (R j))):=q5;have q6h:Hid (qa=some ⟨qb,qo,none⟩∧qb<b∧0<qn):=q6;have q7h:Hid (∀j,j<qn->w2.cell? ⟨qb,qo+j,none⟩=some (.int .i64 (Q j))):=q7;obtain⟨L5,hL5⟩:∃L5,Hid (L5=Ir sRent++Ae sRent++BR (fun _=>rr) 1++[10]):=⟨Ir sRent++Ae sRent++BR (fun _=>rr) 1++[10],Eq.refl _⟩;have hl5:Hid (L5.length<=1000):=by
   show _<=_;have h1:=Fv (x:=fun _=>rr) (fun _=>q11) 1;have h2:(Ir sRent).length<=100:=by decide
   have h3:(Ae sRent).length=4:=rfl;rw[show L5=_ from hL5,AG,AG,AG,List.length_singleton];omega
  have hone:∀j,j<1->(#[Value.int .i64 rr]:Array Value)[j]? =some (.int .i64 ((fun _:Nat=>rr) j)):=fun j hj=>by
   have:j=0:=by omega
   subst this;rfl
  have hct:=GZ (h4.alloc hb2 (.cells #[.int .i64 rr] 3)) hW2 hb2 sRent w4.heap.size 1 1 (fun _=>rr) #[.int .i64 rr] (0,0) (fun _=>q11) (by have:=h4.bel.size;omega) (BG w4 _) hone (by decide);rw[<-show L5=_ from hL5]at hct;clear hb4 hbox hb1 hFh hI0 h4 hbox2 hone q1 q2 q3 q4 q5 q6 q7
  go_wp2_with (first|(go_at_call 22;refine hct.mono ?_))
  rintro e w5 ⟨rfl,h5⟩;clear hct g0 g8;obtain⟨g7,-⟩:=(show∀v L,WrI w2 b L v->v.cell? ⟨w.heap.size,7,none⟩=some (.slice ga gn gc)∧v.cell? ⟨w.heap.size,9,none⟩=some (.slice ra rn rc)∧v.cell? ⟨w.heap.size,10,none⟩=some (.slice qa qn qc)∧v.cell? ⟨w.heap.size,11,none⟩=some (.int .i64 ld)from hby) w5 _ h5;have h5h:Hid (WrI w2 b L5 w5):=h5;clear h5
  go_wp2
  clear g7;have hT:Hid (∀k,k<=gn->(L5++F6 sValues X xn k).length<=40000000):=fun k hk=>by
   have h1:=Ie (word:=sValues) (by decide) q8 k (fun e he=>((show∀e,e<gn->xn e<=1000∧(0<xn e->xa e=some ⟨xb e,xo e,none⟩∧xb e<b)∧∀j,j<xn e->w2.cell? ⟨xb e,xo e+j,none⟩=some (.int .i64 (X e j))from q3h) e (by omega)).1);have h2:L5.length<=1000:=hl5;have h3:k*30000<=1000*30000:=AH _ (by omega);rw[AG];omega
  go_loopw [67] (fun i wr=>∃k:Nat,i=.int .i64 k∧k<=gn∧WrI w2 b (L5++F6 sValues X xn k) wr) (fun i _=>gn-(RowKit.intOf i).toNat)
  case atStart=>
   refine⟨0,rfl,Nat.zero_le _,?_⟩;rw[show L5++F6 sValues X xn 0=L5 from List.append_nil _];exact h5h
  case round=>
   obtain⟨k,rfl,hk,h6⟩:=hrel;by_cases hp:k<gn
   ·obtain⟨ha',hgb'⟩:=(show 0<gn->ga=some ⟨gb,goff,none⟩∧gb<b from q1h) (by omega);subst ha';have d0:=(show∀e,e<gn->w2.cell? ⟨gb,goff+e,none⟩=some (.slice (xa e) (xn e) (xc e))from q2h) k hp;rw[<-h6.bel.cell (p:=⟨gb,goff+k,none⟩) hgb']at d0;obtain⟨u1,u2,u3⟩:=(show∀e,e<gn->xn e<=1000∧(0<xn e->xa e=some ⟨xb e,xo e,none⟩∧xb e<b)∧∀j,j<xn e->w2.cell? ⟨xb e,xo e+j,none⟩=some (.int .i64 (X e j))from q3h) k hp;have hct:=Iw h6 hW2 hb2 sValues (xa k) (xb k) (xo k) (xn k) (xc k) (X k) (fun h=>(u2 h).1) (q8 k) (fun h=>(u2 h).2) u3 (by
     have h1:=(show∀k,k<=gn->(L5++F6 sValues X xn k).length<=40000000 from hT) k (by omega);have h3:sValues.size=6:=rfl;omega)
    have hct2:Calls Tryz.prog 22 #[.pointer (some ⟨b,0,none⟩),.string sValues,.slice (xa k) (xn k) (xc k)] wr fun e w'=>e=.returned (.tuple #[])∧WrI w2 b (L5++F6 sValues X xn (k+1)) w':=hct.mono fun e w' ⟨h1,h2⟩=>⟨h1,by
     rw[show L5++F6 sValues X xn (k+1)=L5++F6 sValues X xn k++Ae sValues++BR (X k) (xn k)++[10] by rw[show F6 sValues X xn (k+1)=F6 sValues X xn k++(Ae sValues++BR (X k) (xn k)++[10])from rfl];simp only[List.append_assoc]];exact h2⟩
    clear hct u2 u3 h6 hT
    go_wp2_with (first|(go_at_call 22;refine hct2.mono ?_;rintro e w6 ⟨rfl,h6⟩))
    go_roundw
    case rel=>exact⟨k+1,by go_num,by omega,h6⟩
    case measure=>simp[RowKit.intOf];omega
   ·have hkn:k=gn:=by omega
    subst hkn;obtain⟨-,g9,-,-⟩:=(show∀v L,WrI w2 b L v->v.cell? ⟨w.heap.size,7,none⟩=some (.slice ga k gc)∧v.cell? ⟨w.heap.size,9,none⟩=some (.slice ra rn rc)∧v.cell? ⟨w.heap.size,10,none⟩=some (.slice qa qn qc)∧v.cell? ⟨w.heap.size,11,none⟩=some (.int .i64 ld)from hby) wr _ h6;obtain⟨L7,hL7⟩:∃L7,Hid (L7=L5++F6 sValues X xn k++Ae sRooms++BR R rn++[10]):=⟨L5++F6 sValues X xn k++Ae sRooms++BR R rn++[10],Eq.refl _⟩;have hl6:=(show∀j,j<=k->(L5++F6 sValues X xn j).length<=40000000 from hT) k (AC _);have hl7:Hid (L7.length<=50000000):=by
     show _<=_;have h1:=Fv q9 rn;have h3:(Ae sRooms).length=5:=rfl;rw[show L7=_ from hL7,AG,AG,AG,List.length_singleton];omega
    have hct:=Iw h6 hW2 hb2 sRooms ra rb ro rn rc R (fun h=>((show 0<rn->ra=some ⟨rb,ro,none⟩∧rb<b from q4h) h).1) q9 (fun h=>((show 0<rn->ra=some ⟨rb,ro,none⟩∧rb<b from q4h) h).2) q5h (by
     have h3:sRooms.size=5:=rfl;omega)
    rw[<-show L7=_ from hL7]at hct;clear h6 hT hl6
    go_wp2_with (first|(go_at_call 22;refine hct.mono ?_))
    rintro e w7 ⟨rfl,h7⟩;clear hct g9;obtain⟨-,-,g10,g11⟩:=(show∀v L,WrI w2 b L v->v.cell? ⟨w.heap.size,7,none⟩=some (.slice ga k gc)∧v.cell? ⟨w.heap.size,9,none⟩=some (.slice ra rn rc)∧v.cell? ⟨w.heap.size,10,none⟩=some (.slice qa qn qc)∧v.cell? ⟨w.heap.size,11,none⟩=some (.int .i64 ld)from hby) w7 _ h7;obtain⟨t1,t2,t3⟩:=(show qa=some ⟨qb,qo,none⟩∧qb<b∧0<qn from q6h);subst t1;obtain⟨i0,hi,hz0,hz1,hz2⟩:=info_parts jA;have hbz:b<w7.heap.size:=by have:=h7.bel.size;omega
    have hnu:Hid (∀v,Below b w2 v->∀j u,((List.range qn).map (fun i=>Value.int .i64 (Q i)))[j]? =some u->v.cell? ((⟨qb,qo,none⟩:Addr).add j)=some u):=fun v hv=>Ro hv t2 q7h;obtain⟨s5,hs5⟩:∃s5,s5=w7.heap.size:=⟨_,rfl⟩;have hs5h:Hid (s5=w7.heap.size):=hs5;have h7h:Hid (WrI w2 b L7 w7):=h7;have hbw:Hid (Below b w2 w7):=h7.bel;have hN5:w.heap.size<s5:=by omega
    have hb5:b<s5:=by omega
    have hbz:b<=s5:=by omega
    have hhx:Hid (∀v,Below b w2 v->v.cell? ⟨w.heap.size,10,none⟩=some (.slice (some ⟨qb,qo,none⟩) qn qc)∧v.cell? ⟨w.heap.size,11,none⟩=some (.int .i64 ld)):=fun v hv=>by
     have hh3:=(show∀v,Below b w2 v->v.heap[w.heap.size]? =some (.cells #[.int .u8 3,c1,c2,.int .u8 pc,c4,c5,c6,.slice ga k gc,.int .i64 rr,.slice ra rn rc,.slice (some ⟨qb,qo,none⟩) qn qc,.int .i64 ld,c12,c13,.int .u8 cl] 39 (0,0))from hh2) v hv;rw[Lib.cell_of_heap hh3,Lib.cell_of_heap hh3];exact⟨rfl,rfl⟩
    have hq2:1+qn<=100000:=by omega
    have g10':=((show∀v,Below b w2 v->v.cell? ⟨w.heap.size,10,none⟩=some (.slice (some ⟨qb,qo,none⟩) qn qc)∧v.cell? ⟨w.heap.size,11,none⟩=some (.int .i64 ld)from hhx) (w7.alloc (.cells #[.int .i64 ld] 3)) (h7.bel.alloc (by omega) _)).1;clear h7 hs5 g10
    go_wp2_with (at_builtin;refine wpList_append_lies _ (by rfl) _ _ 32 (by rfl) w7.heap.size 3 i0 _ 1 8 Tryz.underlying32 hi hz0 hz1 hz2 rfl (by omega) (.slice (some ⟨w7.heap.size,0,none⟩) 1 1) 1 [.int .i64 ld] (by rfl) (Xp w7 ld w7.heap.size rfl) ⟨qb,qo,none⟩ qn qc ((List.range qn).map (fun i=>Value.int .i64 (Q i))) (by rfl) (by simp) ((show∀v,Below b w2 v->∀j u,((List.range qn).map (fun i=>Value.int .i64 (Q i)))[j]? =some u->v.cell? ((⟨qb,qo,none⟩:Addr).add j)=some u from hnu) _ ((show Below b w2 w7 from hbw).alloc (by omega) _)) (NW _ _) t3 (by unfold maxLen;omega) (by omega) (by simp) (w7.heap.size+1) (by simp) ?_;intro g6 cap6 w8 hown6 hgrow hat6 hlt6)
    have hb8:Below w7.heap.size w7 w8:=((Below.refl w7.heap.size w7).alloc (AC _) _).grown hgrow (by simp) (fun j hj=>by cases hj;exact AC _);have hg8:g6≠b:=by
     rcases hat6 with e|e
     ·have e:w7.heap.size=g6:=Option.some.inj e;omega
     ·omega
    have h8:WrI w2 b L7 w8:=(show WrI w2 b L7 w7 from h7h).step hb2 (hb8.mono (by omega));obtain⟨LL,hLL⟩:∃LL,Hid (LL=L7++Ae sPrices++BR (Zq ld Q) (1+qn)++[10]):=⟨L7++Ae sPrices++BR (Zq ld Q) (1+qn)++[10],Eq.refl _⟩;have hlL:Hid (LL.length<=400000000):=by
     show _<=_;have h1:=Fv (gV q12 q10) (1+qn);have h2:L7.length<=50000000:=hl7;have h3:(Ae sPrices).length=6:=rfl;rw[show LL=_ from hLL,AG,AG,AG,List.length_singleton];omega
    have hct:=jF h8 hW2 hb2 sPrices (some ⟨g6,0,none⟩) g6 0 (1+qn) cap6 (Zq ld Q) (fun _=>rfl) (gV q12 q10) (YU hown6 hg8) (by
     have h2:L7.length<=50000000:=hl7;have h3:sPrices.size=6:=rfl;omega)
    rw[<-show LL=_ from hLL]at hct;clear h8 hown6 hgrow hat6 hlt6 h7h hb8 hg8 g10' g11
    go_wp2_with (first|(go_at_call 22;refine hct.mono ?_))
    rintro e wx ⟨rfl,hx,-⟩;clear hct;have i1:∀j:Nat,iR ((fun _:Nat=>cl+pc) j)=true:=fun j=>iR_iff.2 ⟨by dsimp only;omega,by dsimp only;omega⟩;have i2:Hid (∀j,j<1->(#[Value.int .i64 (cl+pc)]:Array Value)[j]? =some (.int .i64 ((fun _:Nat=>cl+pc) j))):=fun j hj=>by
     have:j=0:=by omega
     subst this;rfl
    have i3':LL.length+sClaims.size+1*22<=1000000000000:=by
     have h1:LL.length<=400000000:=hlL;have h3:sClaims.size=6:=rfl;omega
    have hT2:Hid (LL++Ae sClaims++BR (fun _=>cl+pc) 1++[10]=pF rr X xn k R rn ld Q qn (cl+pc)):=by
     show _=_;rw[show LL=_ from hLL,show L7=_ from hL7,show L5=_ from hL5,pF];simp only[Zn,List.append_assoc]
    have f0:Hid (b<w2.heap.size):=hb3;clear hb3;obtain⟨f14,f3⟩:=(show∀v L,WrI w2 b L v->v.cell? ⟨w.heap.size,14,none⟩=some (.int .u8 cl)∧v.cell? ⟨w.heap.size,3,none⟩=some (.int .u8 pc)from hbx) wx _ hx;have i4:wx.heap.size≠b:=by have:=hx.bel.size;have h:b<w2.heap.size:=f0;omega
    have hxa:=hx.alloc hb2 (.cells #[.int .i64 (cl+pc)] 3);have hxn:Hid ((wx.alloc (.cells #[.int .i64 (cl+pc)] 3)).heap[wx.heap.size]? =some (.cells #[.int .i64 (cl+pc)] 3 (0,0))):=BG wx _
    go_wp2_with (first|(go_at_call 22;refine(GZ hxa hW2 hb2 sClaims wx.heap.size 1 1 (fun _=>cl+pc) #[.int .i64 (cl+pc)] (0,0) i1 i4 hxn i2 i3').mono ?_))
    rintro e wz ⟨rfl,hz⟩;obtain⟨T,hT⟩:∃T,T=LL++Ae sClaims++BR (fun _=>cl+pc) 1++[10]:=⟨_,rfl⟩;rw[<-hT]at hz;have hT3:Hid (pF rr X xn k R rn ld Q qn (cl+pc)=T):=by
     show _=_;rw[hT];exact(show LL++Ae sClaims++BR (fun _=>cl+pc) 1++[10]=pF rr X xn k R rn ld Q qn (cl+pc)from hT2).symm
    have hne:T≠[]:=by rw[hT];simp
    have hbz:Below w.heap.size w wz:=hbv wz hz.bel;clear hT hT2 f14 f3 hx hxa hxn i1 i2 i3' i4 hbx
    go_wp2_with (first|(go_at_call 23;refine(Rq b b T _ hz.bld).mono ?_))
    rintro e wy ⟨rfl,rfl⟩;have hfin:Hid (∀v,Below b wy v->Below w.heap.size w v):=fun v hv=>hbz.trans (hv.mono (by omega));by_cases hbig:60000<T.length
    ·have hdb:decide (60000<T.length)=true:=A4 hbig;have hd2:Hid (decide (60000<T.length)=true):=hdb;clear hdb
     go_wp2
     go_ret2
     rw[show pF rr X xn k R rn ld Q qn (cl+pc)=T from hT3];unfold P9 Me;rw[show decide (60000<T.length)=true from hd2];exact⟨rfl,hbz⟩
    ·have hd2:Hid (decide (60000<T.length)=false):=AB hbig
     go_wp2_with (first|(go_at_call 24;refine(NH b b T _ hz.bld hne).mono ?_))
     rintro e w9 ⟨rfl,h9⟩
     go_wp2
     go_ret2
     rw[show pF rr X xn k R rn ld Q qn (cl+pc)=T from hT3];unfold P9 Me;rw[show decide (60000<T.length)=false from hd2];exact⟨rfl,(show∀v,Below b wy v->Below w.heap.size w v from hfin) w9 h9⟩
set_option maxRecDepth 100000
set_option maxHeartbeats 2000000 in
set_option maxRecDepth 1000000 in
theorem oC(w:World)(c0 c1 c2 c3 c4 c5 c6 c7 c8 c9 c10 c11 c12 c13 c14:Value)(ec:Int)(hec:ec≠0)
  (hchk:∀w',Below w.heap.size w w'->Calls Tryz.prog 10 #[.agg #[c0,c1,c2,c3,c4,c5,c6,c7,c8,c9,c10,c11,c12,c13,c14]] w' fun e w''=>e=.returned (.int .i64 ec)∧Below w'.heap.size w' w''):
  Calls Tryz.prog 6 #[.agg #[c0,c1,c2,c3,c4,c5,c6,c7,c8,c9,c10,c11,c12,c13,c14]] w fun e w'=>e=.returned (.tuple #[.string ⟨#[]⟩,.int .i64 ec])∧Below w.heap.size w w':=by
 go_enter Tryz.func6,Tryz.ntmps6
 go_wp2_with (first|(go_at_call 10;refine(hchk _ ?_).mono ?_))
 ·exact(Below.refl _ w).alloc (AC _) _
 rintro e w1 ⟨rfl,hb1⟩;have hec2:(ec !=0)=true:=by simpa using hec
 go_wp2
 go_ret2
 exact⟨rfl,((Below.refl _ w).alloc (AC _) _).trans (hb1.mono (Nat.le_of_lt (Be w _)))⟩
def Wi(r:Row)(e j:Nat):Int:=if e<r.n∧j<(r.R e 0).n then(r.R e 0).I j 0 else 0
def Ii(r:Row)(j:Nat):Int:=if j<r.n then r.I j 0 else 0
def uM(r:Row)(e i:Nat):Int:=if e<r.n∧i<3 then r.I e i else 0
theorem UY:iR 0=true:=by decide
def xO(r:Row)(c e j:Nat):Int:=if e<r.n∧j<(r.R e c).n then(r.R e c).I j 0 else 0
def qO(r:Row)(e j:Nat):Int×Int:=if e<r.n∧j<(r.R e 0).n then((r.R e 0).I j 0,(r.R e 0).I j 1)else(0,0)
def sO(r:Row)(e i c:Nat):Int:=if e<r.n∧i<(r.R e 0).n∧c<4 then(r.R e 0).I i c else 0
def gdT(x:Dc):List UInt8:=goT (Wi x.gv) (fun e=>(x.gv.R e 0).n) x.gv.n (Ii x.aa) x.aa.n (x.cl+x.pc)
def stT(x:Dc):List UInt8:=nY (Ii x.ba) x.ba.n (uM x.pa) x.pa.n (x.cl+x.pc)
def ckT(x:Dc):List UInt8:=oV x.ca.n x.pi.n x.wo.n (Ii x.ca) (fun e=>(x.ca.R e 1).n) (fun e=>(x.ca.R e 2).n) (xO x.ca 1) (xO x.ca 2) (fun e=>(x.pi.R e 0).n) (fun e=>(x.wo.R e 0).n) (sO x.pi) (qO x.wo) (x.cl+x.pc)
def rnT(x:Dc):List UInt8:=pF x.rr (Wi x.fv) (fun e=>(x.fv.R e 0).n) x.fv.n (Ii x.lr) x.lr.n x.ld (Ii x.lp) x.lp.n (x.cl+x.pc)
def Jn(x:Dc):List UInt8:=bif x.k==2 then gdT x else bif x.k==1 then ckT x else bif x.k==3 then rnT x else stT x
abbrev ClC(x:Dc):Prop:=0<=x.pc∧x.pc<=255∧0<=x.cl∧x.cl<=255
abbrev kP(x:Dc):Prop:=x.k=2∧x.gv.n<=1000∧(∀e,e<x.gv.n->(x.gv.R e 0).n<=1000)∧(∀e,e<x.gv.n->∀j,j<(x.gv.R e 0).n->iR ((x.gv.R e 0).I j 0)=true)∧x.aa.n<=1000∧(∀j,j<x.aa.n->iR (x.aa.I j 0)=true)∧ClC x
abbrev oO(x:Dc):Prop:=x.k=4∧x.ba.n<=1000∧(∀j,j<x.ba.n->iR (x.ba.I j 0)=true)∧x.pa.n<=1000∧(∀e,e<x.pa.n->∀i,i<3->iR (x.pa.I e i)=true)∧ClC x
abbrev Ake(r:Row):Prop:=r.n<=1000∧(∀e,e<r.n->0<(r.R e 1).n∧0<(r.R e 2).n∧(r.R e 1).n+(r.R e 2).n<=900∧iR (r.I e 0)=true)∧(∀e,e<r.n->∀j,j<(r.R e 1).n->iR ((r.R e 1).I j 0)=true)∧(∀e,e<r.n->∀j,j<(r.R e 2).n->iR ((r.R e 2).I j 0)=true)
abbrev Aik(m:Nat)(r:Row):Prop:=r.n<=1000∧(∀e,e<r.n->(r.R e 0).n<=900)∧(∀e,e<r.n->∀j,j<(r.R e 0).n->∀c,c<m->Rt.iR ((r.R e 0).I j c)=true)
abbrev X7(x:Dc):Prop:=x.k=1∧Ake x.ca∧Aik 4 x.pi∧Aik 2 x.wo∧ClC x
abbrev aY(x:Dc):Prop:=x.k=3∧x.fv.n<=1000∧(∀e,e<x.fv.n->(x.fv.R e 0).n<=1000)∧(∀e,e<x.fv.n->∀j,j<(x.fv.R e 0).n->iR ((x.fv.R e 0).I j 0)=true)∧x.lr.n<=1000∧(∀j,j<x.lr.n->iR (x.lr.I j 0)=true)∧0<x.lp.n∧x.lp.n<=1000∧(∀j,j<x.lp.n->iR (x.lp.I j 0)=true)∧iR x.rr=true∧iR x.ld=true∧ClC x
def YL(x:Dc):Bool:=decide (kP x)||(decide (oO x)||(decide (X7 x)||decide (aY x)))
def Ftx(v:Ck):FD
 |[d]=>match Hg d with
  |some x=>some (wO v x&&(ckE v x !=0||YL x),[.v (.string (P9 (ckE v x) (Jn x))),.v (i64 (Me (ckE v x) (Jn x)))])
  |none=>none
 |_=>none
theorem JQ{mem:List (Option Blk)}{ρ:Ev.Map}{w:World}{r:Row}{e j m:Nat}{y:Value}{ks:List CK}(hk:ks=List.replicate m (.int .i64))(h:CellR (Ev.okB mem ρ w) w (.slice ks) r e j y):
  ∃a cap b off,y=.slice a (r.R e j).n cap∧(0<(r.R e j).n->a=some ⟨b,off,none⟩∧b<w.heap.size)∧∀i,i<(r.R e j).n->∀c,c<m->w.cell? ⟨b,off+i*m+c,none⟩=some (.int .i64 ((r.R e j).I i c)):=by
 subst hk;cases h with
 |@slice0 _ _ _ _ a cap h1=>exact⟨a,cap,0,0,by rw[h1],fun h=>by omega,fun i hi=>by omega⟩
 |@slice _ _ _ _ b off n cap h1 h2 h3 h4=>
  refine⟨_,cap,b,off,by rw[h1],fun _=>⟨rfl,h3.1⟩,fun i hi c hc=>?_⟩;cases h4 with
  |mk v g1 g2=>
   have hk:(List.replicate m (CK.int .i64))[c]? =some (.int .i64):=by rw[List.getElem?_replicate,AM hc]
   have:=g1 i c _ hi hk;rw[Ey (g2 i c _ hi hk)]at this;rw[<-this,List.length_replicate]
theorem rt0:Rt.iR 0=true:=by decide
theorem iQ0:iQ (0,0)=true:=by decide
set_option maxHeartbeats 1000000 in
theorem YD{x:Dc}{ρ:Ev.Map}{B:Nat}{w:World}{y1 y2 y4:Value}(hm:MemR (Jj x) ρ B w)(h1:V ρ (Jj x).length (S_ 0 0 x.ca.n) y1)(h2:V ρ (Jj x).length (S_ 1 0 x.pi.n) y2)(h4:V ρ (Jj x).length (S_ 2 0 x.wo.n) y4)(hC:X7 x):
  ∃ca pa wa cc pcp wcp cb co pb po wb wo ub uo uc db dO dc sa va sb so sc vb vo vc,y1=.slice ca x.ca.n cc∧y2=.slice pa x.pi.n pcp∧y4=.slice wa x.wo.n wcp∧
   CakeF w w.heap.size ca pa wa x.ca.n cc x.pi.n pcp x.wo.n wcp cb co pb po wb wo (Ii x.ca) ub uo (fun e=>(x.ca.R e 1).n) uc db dO (fun e=>(x.ca.R e 2).n) dc (xO x.ca 1) (xO x.ca 2) sa va sb so (fun e=>(x.pi.R e 0).n) sc vb vo (fun e=>(x.wo.R e 0).n) vc (sO x.pi) (qO x.wo):=by
 obtain⟨-,⟨c1,c2,c3,c4⟩,⟨p1,p2,p3⟩,⟨o1,o2,o3⟩,-⟩:=hC;obtain⟨a1,n1,b1,f1,y1e,l1,v1,q1,r1⟩:=ED (ks:=ksC) (r:=x.ca) hm rfl h1;obtain⟨a2,n2,b2,f2,y2e,l2,v2,q2,r2⟩:=ED (ks:=ksP) (r:=x.pi) hm rfl h2;obtain⟨a4,n4,b4,f4,y4e,l4,v4,q4,r4⟩:=ED (ks:=ksW) (r:=x.wo) hm rfl h4;have hu:∀e:Nat,∃f:Option Addr×Nat×Nat×Nat,e<x.ca.n->v1 e 1=.slice f.1 (x.ca.R e 1).n f.2.1∧(0<(x.ca.R e 1).n->f.1=some ⟨f.2.2.1,f.2.2.2,none⟩∧f.2.2.1<w.heap.size)∧∀i,i<(x.ca.R e 1).n->∀c,c<1->w.cell? ⟨f.2.2.1,f.2.2.2+i*1+c,none⟩=some (.int .i64 ((x.ca.R e 1).I i c)):=fun e=>by
  by_cases he:e<x.ca.n
  ·obtain⟨a,cap,b,off,e1,e2,e3⟩:=JQ (m:=1) rfl (r1 e 1 _ he rfl);exact⟨(a,cap,b,off),fun _=>⟨e1,e2,e3⟩⟩
  ·exact⟨(none,0,0,0),fun h=>absurd h he⟩
 have hd:∀e:Nat,∃f:Option Addr×Nat×Nat×Nat,e<x.ca.n->v1 e 2=.slice f.1 (x.ca.R e 2).n f.2.1∧(0<(x.ca.R e 2).n->f.1=some ⟨f.2.2.1,f.2.2.2,none⟩∧f.2.2.1<w.heap.size)∧∀i,i<(x.ca.R e 2).n->∀c,c<1->w.cell? ⟨f.2.2.1,f.2.2.2+i*1+c,none⟩=some (.int .i64 ((x.ca.R e 2).I i c)):=fun e=>by
  by_cases he:e<x.ca.n
  ·obtain⟨a,cap,b,off,e1,e2,e3⟩:=JQ (m:=1) rfl (r1 e 2 _ he rfl);exact⟨(a,cap,b,off),fun _=>⟨e1,e2,e3⟩⟩
  ·exact⟨(none,0,0,0),fun h=>absurd h he⟩
 have hs:∀e:Nat,∃f:Option Addr×Nat×Nat×Nat,e<x.pi.n->v2 e 0=.slice f.1 (x.pi.R e 0).n f.2.1∧(0<(x.pi.R e 0).n->f.1=some ⟨f.2.2.1,f.2.2.2,none⟩∧f.2.2.1<w.heap.size)∧∀i,i<(x.pi.R e 0).n->∀c,c<4->w.cell? ⟨f.2.2.1,f.2.2.2+i*4+c,none⟩=some (.int .i64 ((x.pi.R e 0).I i c)):=fun e=>by
  by_cases he:e<x.pi.n
  ·obtain⟨a,cap,b,off,e1,e2,e3⟩:=JQ (m:=4) rfl (r2 e 0 _ he rfl);exact⟨(a,cap,b,off),fun _=>⟨e1,e2,e3⟩⟩
  ·exact⟨(none,0,0,0),fun h=>absurd h he⟩
 have ho:∀e:Nat,∃f:Option Addr×Nat×Nat×Nat,e<x.wo.n->v4 e 0=.slice f.1 (x.wo.R e 0).n f.2.1∧(0<(x.wo.R e 0).n->f.1=some ⟨f.2.2.1,f.2.2.2,none⟩∧f.2.2.1<w.heap.size)∧∀i,i<(x.wo.R e 0).n->∀c,c<2->w.cell? ⟨f.2.2.1,f.2.2.2+i*2+c,none⟩=some (.int .i64 ((x.wo.R e 0).I i c)):=fun e=>by
  by_cases he:e<x.wo.n
  ·obtain⟨a,cap,b,off,e1,e2,e3⟩:=JQ (m:=2) rfl (r4 e 0 _ he rfl);exact⟨(a,cap,b,off),fun _=>⟨e1,e2,e3⟩⟩
  ·exact⟨(none,0,0,0),fun h=>absurd h he⟩
 obtain⟨fu,hu⟩:=Classical.axiomOfChoice hu;obtain⟨fd,hd⟩:=Classical.axiomOfChoice hd;obtain⟨fs,hs⟩:=Classical.axiomOfChoice hs;obtain⟨fo,ho⟩:=Classical.axiomOfChoice ho;refine⟨a1,a2,a4,n1,n2,n4,b1,f1,b2,f2,b4,f4,fun e=>(fu e).2.2.1,fun e=>(fu e).2.2.2,fun e=>(fu e).2.1,fun e=>(fd e).2.2.1,fun e=>(fd e).2.2.2,fun e=>(fd e).2.1,fun e=>(fs e).1,fun e=>(fo e).1,fun e=>(fs e).2.2.1,fun e=>(fs e).2.2.2,fun e=>(fs e).2.1,fun e=>(fo e).2.2.1,fun e=>(fo e).2.2.2,fun e=>(fo e).2.1,y1e,y2e,y4e,?_⟩;exact{
  hca:=fun h=>(l1 h).1
  hcb:=fun h=>(l1 h).2
  hc:=fun e he=>by
   refine⟨?_,?_,?_⟩
   ·have:=q1 e 0 _ he (show ksC[0]? =some _ from rfl);rw[Ey (r1 e 0 _ he (show ksC[0]? =some _ from rfl))]at this;unfold Ii;rw[AM he];exact this
   ·have:=q1 e 1 _ he (show ksC[1]? =some _ from rfl);rw[(hu e he).1]at this;rw[<-((hu e he).2.1 (c2 e he).1).1];exact this
   ·have:=q1 e 2 _ he (show ksC[2]? =some _ from rfl);rw[(hd e he).1]at this;rw[<-((hd e he).2.1 (c2 e he).2.1).1];exact this
  hu:=fun e he=>by
   obtain⟨z1,z2,z3,z4⟩:=c2 e he;refine⟨⟨z1,z3,((hu e he).2.1 z1).2,fun j hj=>?_⟩,z2,by omega,((hd e he).2.1 z2).2,fun j hj=>?_⟩
   ·have:=(hu e he).2.2 j hj 0 (by omega);rw[Nat.mul_one,Nat.add_zero]at this;unfold xO;rw[AM ⟨he,hj⟩];exact this
   ·have:=(hd e he).2.2 j hj 0 (by omega);rw[Nat.mul_one,Nat.add_zero]at this;unfold xO;rw[AM ⟨he,hj⟩];exact this
  hr1:=fun e=>by
   unfold Ii;split
   ·rename_i h;exact(c2 e h).2.2.2
   ·exact UY
  hr2:=fun e j=>by
   unfold xO;split
   ·rename_i h;exact c3 e h.1 j h.2
   ·exact UY
  hr3:=fun e j=>by
   unfold xO;split
   ·rename_i h;exact c4 e h.1 j h.2
   ·exact UY
  hcn:=c1
  hpa:=l2
  hps:=fun e he=>by
   have:=q2 e 0 _ he (show ksP[0]? =some _ from rfl);rw[(hs e he).1]at this;rw[<-this];show w.cell? _=w.cell? ⟨b2,f2+e*1+0,none⟩;rw[Nat.mul_one,Nat.add_zero]
  hsa:=fun e he=>⟨p2 e he,(hs e he).2.1,fun i hi c hc=>by
   rw[(hs e he).2.2 i hi c hc];unfold sO;rw[AM ⟨he,hi,hc⟩]⟩
  hwa:=l4
  hws:=fun e he=>by
   have:=q4 e 0 _ he (show ksW[0]? =some _ from rfl);rw[(ho e he).1]at this;rw[<-this];show w.cell? _=w.cell? ⟨b4,f4+e*1+0,none⟩;rw[Nat.mul_one,Nat.add_zero]
  hva:=fun e he=>⟨o2 e he,(ho e he).2.1,fun j hj=>by
   have e0:=(ho e he).2.2 j hj 0 (by omega);have e1:=(ho e he).2.2 j hj 1 (by omega);unfold qO;rw[AM ⟨he,hj⟩];exact⟨e0,e1⟩⟩
  hr4:=fun e i c=>by
   unfold sO;split
   ·rename_i h;exact p3 e h.1 i h.2.1 c h.2.2
   ·exact rt0
  hr5:=fun e j=>by
   unfold qO;split
   ·rename_i h;show(Rt.iR _&&Rt.iR _)=true;rw[o3 e h.1 j h.2 0 (by omega),o3 e h.1 j h.2 1 (by omega)];rfl
   ·exact iQ0
  hpn:=p1
  hwn:=o1}
set_option maxHeartbeats 1000000 in
theorem YH{x:Dc}{ρ:Ev.Map}{B:Nat}{w:World}{y1 y2 y4:Value}(hm:MemR (Jj x) ρ B w)(h1:V ρ (Jj x).length (S_ 5 0 x.fv.n) y1)(h2:V ρ (Jj x).length (S_ 6 0 x.lr.n) y2)(h4:V ρ (Jj x).length (S_ 7 0 x.lp.n) y4)(hC:aY x):
  ∃ga ra qa gc gb goff rc rb ro qc qb qo xa xb xo xc,y1=.slice ga x.fv.n gc∧y2=.slice ra x.lr.n rc∧y4=.slice qa x.lp.n qc∧
   RentF w w.heap.size ga ra qa x.fv.n gc gb goff x.lr.n rc rb ro x.lp.n qc qb qo xa xb xo (fun e=>(x.fv.R e 0).n) xc (Wi x.fv) (Ii x.lr) (Ii x.lp) x.rr x.ld:=by
 obtain⟨-,c1,c2,c3,c4,c5,c6,c7,c8,c9,c10,-⟩:=hC;obtain⟨a1,n1,b1,f1,y1e,l1,v1,q1,r1⟩:=ED (ks:=Ls) (r:=x.fv) hm rfl h1;obtain⟨a2,n2,b2,f2,y2e,l2,v2,q2,r2⟩:=ED (ks:=FW) (r:=x.lr) hm rfl h2;obtain⟨a4,n4,b4,f4,y4e,l4,v4,q4,r4⟩:=ED (ks:=FW) (r:=x.lp) hm rfl h4;have hs:∀e:Nat,∃f:Option Addr×Nat×Nat×Nat,e<x.fv.n->v1 e 0=.slice f.1 (x.fv.R e 0).n f.2.1∧(0<(x.fv.R e 0).n->f.1=some ⟨f.2.2.1,f.2.2.2,none⟩∧f.2.2.1<w.heap.size)∧∀i,i<(x.fv.R e 0).n->w.cell? ⟨f.2.2.1,f.2.2.2+i,none⟩=some (.int .i64 ((x.fv.R e 0).I i 0)):=fun e=>by
  by_cases he:e<x.fv.n
  ·obtain⟨a,cap,b,off,e1,e2,e3⟩:=XM (r1 e 0 _ he rfl);exact⟨(a,cap,b,off),fun _=>⟨e1,e2,e3⟩⟩
  ·exact⟨(none,0,0,0),fun h=>absurd h he⟩
 obtain⟨fs,hs⟩:=Classical.axiomOfChoice hs;refine⟨a1,a2,a4,n1,b1,f1,n2,b2,f2,n4,b4,f4,fun e=>(fs e).1,fun e=>(fs e).2.2.1,fun e=>(fs e).2.2.2,fun e=>(fs e).2.1,y1e,y2e,y4e,?_⟩;exact{
  hga:=l1
  hg:=fun e he=>by
   have:=q1 e 0 _ he (show Ls[0]? =some _ from rfl);rw[(hs e he).1]at this;rw[<-this];show w.cell? _=w.cell? ⟨b1,f1+e*1+0,none⟩;rw[Nat.mul_one,Nat.add_zero]
  hx:=fun e he=>⟨c2 e he,(hs e he).2.1,fun j hj=>by
   rw[(hs e he).2.2 j hj];unfold Wi;rw[AM ⟨he,hj⟩]⟩
  hra:=l2
  hr:=fun j hj=>by
   have:=q2 j 0 _ hj (show FW[0]? =some _ from rfl);rw[Ey (r2 j 0 _ hj (show FW[0]? =some _ from rfl))]at this;unfold Ii;rw[AM hj,<-this];show w.cell? _=w.cell? ⟨b2,f2+j*1+0,none⟩;rw[Nat.mul_one,Nat.add_zero]
  hqa:=⟨(l4 c6).1,(l4 c6).2,c6⟩
  hq:=fun j hj=>by
   have:=q4 j 0 _ hj (show FW[0]? =some _ from rfl);rw[Ey (r4 j 0 _ hj (show FW[0]? =some _ from rfl))]at this;unfold Ii;rw[AM hj,<-this];show w.cell? _=w.cell? ⟨b4,f4+j*1+0,none⟩;rw[Nat.mul_one,Nat.add_zero]
  hX:=fun e j=>by
   unfold Wi;split
   ·rename_i h;exact c3 e h.1 j h.2
   ·exact UY
  hR:=fun j=>by
   unfold Ii;split
   ·rename_i h;exact c5 j h
   ·exact UY
  hQ:=fun j=>by
   unfold Ii;split
   ·rename_i h;exact c8 j h
   ·exact UY
  hrr:=c9
  hld:=c10
  hgn:=c1
  hrn:=c4
  hqn:=c7}
theorem den_text{v:Ck}(hv:v.Ok):DenW Tryz.prog Wd 6 (Ftx v):=by
 intro wb hwb ds rs hF w hbw args vs mem ρ hfrom hm hl hva;unfold Ftx at hF;split at hF
 ·split at hF
  ·rename_i x hx;simp only[A5,A6]at hF;obtain⟨h0,rfl⟩:=hF;rw[A2]at h0;obtain⟨hck,h0⟩:=h0;rw[EX hx,Ut]at hfrom;simp only[A5,A6]at hfrom;obtain⟨rfl,rfl⟩:=hfrom;obtain⟨c,rfl⟩:∃c,args=[c]:=List.length_eq_one_iff.1 hl.symm;have hchk:∀w',Below w.heap.size w w'->Calls Tryz.prog 10 ⟨[c]⟩ w' fun e w''=>e=.returned (.int .i64 (ckE v x))∧Below w'.heap.size w' w'':=fun w' hb=>by
    refine(Xd hv wb hwb [x.D] [.v (i64 (ckE v x))] (by
     show some (wO v x,[D.v (i64 (ckE v x))])=_;rw[hck]) w' (hbw.trans (hb.mono hbw.size)) [c] _ _ ρ (Ut x) (YA (YX x) hm hb) rfl hva).mono fun e w'' ⟨cv,he,hb',us,mem',ρ',hf,_,hcv⟩=>?_
    have e2:us=[i64 (ckE v x)]:=by
     have:Az true [D.v (i64 (ckE v x))] []=some ([i64 (ckE v x)],[]):=rfl;rw[this]at hf;simp only[A5,A6]at hf;exact hf.1.symm
    subst e2;exact⟨by rw[he,Na (show V ρ' mem'.length (.int .i64 (ckE v x)) cv from hcv)],hb'⟩
   obtain⟨cs,rfl,hcs,hcv⟩:=Aj2 (hva 0 _ c rfl rfl);have hs:cs.size=15:=hcs.symm;have hout:∀(s:ByteArray)(n:Int),∀e w',(e=Ending.returned (.tuple #[.string s,.int .i64 n])∧Below w.heap.size w w')->s=P9 (ckE v x) (Jn x)->n=Me (ckE v x) (Jn x)->
     ∃cv,e=.returned cv∧Below w.heap.size w w'∧∃us mem' ρ',Az true [D.v (.string (P9 (ckE v x) (Jn x))),D.v (i64 (Me (ckE v x) (Jn x)))] []=some (us,mem')∧MemR mem' ρ' w.heap.size w'∧V ρ' mem'.length (tupV us) cv:=fun s n e w' ⟨he,hb⟩ h1 h2=>by
    subst h1 h2;refine⟨_,he,hb,[.string _,i64 _],[],fun _=>none,rfl,NJ _ _,?_⟩;refine .tuple rfl fun j x y hx hy=>?_
    match j,hx,hy with
    |0,hx,hy=>simp at hx hy;subst hx hy;exact .str
    |1,hx,hy=>simp at hx hy;subst hx hy;exact .int
   have k0:=Na (show V ρ (Jj x).length (.int .u8 x.k) (cs.getD 0 unk)from hcv 0 _ rfl);have k3:=Na (show V ρ (Jj x).length (.int .u8 x.pc) (cs.getD 3 unk)from hcv 3 _ rfl);have k8:=Na (show V ρ (Jj x).length (.int .i64 x.rr) (cs.getD 8 unk)from hcv 8 _ rfl);have k11:=Na (show V ρ (Jj x).length (.int .i64 x.ld) (cs.getD 11 unk)from hcv 11 _ rfl);have k14:=Na (show V ρ (Jj x).length (.int .u8 x.cl) (cs.getD 14 unk)from hcv 14 _ rfl);have hWd:∀w',Below w.heap.size w w'->Wd w':=fun w' hb=>hwb.later (hbw.trans (hb.mono hbw.size));rw[Aix hs]at hchk⊢;rw[k0,k3,k8,k11,k14]at hchk⊢;by_cases hec:ckE v x=0
   rotate_left
   ·refine(oC w _ _ _ _ _ _ _ _ _ _ _ _ _ _ _ (ckE v x) hec hchk).mono fun e w' h=>hout _ _ e w' h ?_ ?_
    ·unfold P9;rw[show(ckE v x !=0)=true by simpa using hec];rfl
    ·unfold Me;rw[show(ckE v x !=0)=true by simpa using hec];rfl
   ·rw[show(ckE v x !=0)=false by simpa using hec,Bool.false_or]at h0;unfold YL at h0;simp only[Bool.or_eq_true,A3]at h0;rcases h0 with h0|h0|h0|h0
    ·obtain⟨g1,g2,g3,g4,g5,g6,g7⟩:=h0;obtain⟨a5,p5,b5,o5,y5,l5,v5,q5,r5⟩:=ED (ks:=Ls) (r:=x.gv) hm rfl (hcv 5 _ rfl);obtain⟨a6,p6,b6,o6,y6,l6,v6,q6,r6⟩:=ED (ks:=FW) (r:=x.aa) hm rfl (hcv 6 _ rfl);rw[y5,y6]at hchk⊢;have hrow:∀e:Nat,∃f:Option Addr×Nat×Nat×Nat,e<x.gv.n->v5 e 0=.slice f.1 (x.gv.R e 0).n f.2.1∧(0<(x.gv.R e 0).n->f.1=some ⟨f.2.2.1,f.2.2.2,none⟩∧f.2.2.1<w.heap.size)∧∀i,i<(x.gv.R e 0).n->w.cell? ⟨f.2.2.1,f.2.2.2+i,none⟩=some (.int .i64 ((x.gv.R e 0).I i 0)):=fun e=>by
      by_cases he:e<x.gv.n
      ·obtain⟨a,cap,b,off,e1,e2,e3⟩:=XM (r5 e 0 _ he rfl);exact⟨(a,cap,b,off),fun _=>⟨e1,e2,e3⟩⟩
      ·exact⟨(none,0,0,0),fun h=>absurd h he⟩
     obtain⟨f,hf⟩:=Classical.axiomOfChoice hrow;rw[g1]at hchk⊢;have ht:Jn x=goT (Wi x.gv) (fun e=>(x.gv.R e 0).n) x.gv.n (Ii x.aa) x.aa.n (x.cl+x.pc):=by
      unfold Jn;rw[g1];rfl
     refine(Vg w _ _ _ _ _ _ _ _ x.pc x.rr x.ld x.cl a5 a6 x.gv.n p5 x.aa.n p6 b5 o5 b6 o6 (fun e=>(f e).1) (fun e=>(f e).2.2.1) (fun e=>(f e).2.2.2) (fun e=>(x.gv.R e 0).n) (fun e=>(f e).2.1) (Wi x.gv) (Ii x.aa) (ckE v x) hchk hWd
      (fun h=>(l5 h).1) (fun h=>(l5 h).2) (fun e he=>?_) (fun e he=>(hf e he).2.1) (fun e he j hj=>?_) l6 (fun j hj=>?_) (fun e j=>?_) (fun j=>?_) (fun _=>⟨g2,g3,g5⟩) (fun _=>g7)).mono fun e w' h=>hout _ _ e w' h (by rw[ht]) (by rw[ht])
     ·have:=q5 e 0 _ he (show Ls[0]? =some _ from rfl);rw[(hf e he).1]at this;rw[<-this];show w.cell? _=w.cell? ⟨b5,o5+e*1+0,none⟩;rw[Nat.mul_one,Nat.add_zero]
     ·rw[(hf e he).2.2 j hj];unfold Wi;rw[AM ⟨he,hj⟩]
     ·have:=q6 j 0 _ hj (show FW[0]? =some _ from rfl);rw[Ey (r6 j 0 _ hj (show FW[0]? =some _ from rfl))]at this;unfold Ii;rw[AM hj,<-this];show w.cell? _=w.cell? ⟨b6,o6+j*1+0,none⟩;rw[Nat.mul_one,Nat.add_zero]
     ·unfold Wi;split
      ·rename_i h;exact g4 e h.1 j h.2
      ·exact UY
     ·unfold Ii;split
      ·rename_i h;exact g6 j h
      ·exact UY
    ·obtain⟨g1,g2,g3,g4,g5,g7⟩:=h0;obtain⟨a5,p5,b5,o5,y5,l5,v5,q5,r5⟩:=ED (ks:=ks3) (r:=x.pa) hm rfl (hcv 13 _ rfl);obtain⟨a6,p6,b6,o6,y6,l6,v6,q6,r6⟩:=ED (ks:=FW) (r:=x.ba) hm rfl (hcv 12 _ rfl);rw[y5,y6]at hchk⊢;rw[g1]at hchk⊢;have ht:Jn x=nY (Ii x.ba) x.ba.n (uM x.pa) x.pa.n (x.cl+x.pc):=by
      unfold Jn;rw[g1];rfl
     refine(Uf w _ _ _ _ _ _ _ _ x.pc x.rr x.ld x.cl a5 a6 x.pa.n p5 x.ba.n p6 b5 o5 b6 o6 (uM x.pa) (Ii x.ba) (ckE v x) hchk hWd
      (fun h=>(l5 h).1) (fun h=>(l5 h).2) (fun e he i hi=>?_) l6 (fun j hj=>?_) (fun e j=>?_) (fun j=>?_) (fun _=>⟨g4,g2⟩) (fun _=>g7)).mono fun e w' h=>hout _ _ e w' h (by rw[ht]) (by rw[ht])
     ·unfold uM;rw[AM ⟨he,hi⟩];have hk3:ks3[i]? =some (.int .i64):=by
       match i,hi with
       |0,_=>rfl
       |1,_=>rfl
       |2,_=>rfl
      have:=q5 e i _ he hk3;rw[Ey (r5 e i _ he hk3)]at this;exact this
     ·have:=q6 j 0 _ hj (show FW[0]? =some _ from rfl);rw[Ey (r6 j 0 _ hj (show FW[0]? =some _ from rfl))]at this;unfold Ii;rw[AM hj,<-this];show w.cell? _=w.cell? ⟨b6,o6+j*1+0,none⟩;rw[Nat.mul_one,Nat.add_zero]
     ·unfold uM;split
      ·rename_i h;exact g5 e h.1 j h.2
      ·exact UY
     ·unfold Ii;split
      ·rename_i h;exact g3 j h
      ·exact UY
    ·obtain⟨ca,pa,wa,cc,pcp,wcp,cb,co,pb,po,wb,wo,ub,uo,uc,db,dO,dc,sa,va,sb,so,sc,vb,vo,vc,y1,y2,y4,hCF⟩:=YD hm (hcv 1 _ rfl) (hcv 2 _ rfl) (hcv 4 _ rfl) h0;rw[y1,y2,y4]at hchk⊢;have ht:Jn x=ckT x:=by
      unfold Jn;rw[h0.1];rfl
     rw[h0.1]at hchk⊢;exact(Ws w _ _ _ _ _ _ _ x.pc x.rr x.ld x.cl ca pa wa x.ca.n cc x.pi.n pcp x.wo.n wcp cb co pb po wb wo (Ii x.ca) ub uo (fun e=>(x.ca.R e 1).n) uc db dO (fun e=>(x.ca.R e 2).n) dc (xO x.ca 1) (xO x.ca 2) sa va sb so (fun e=>(x.pi.R e 0).n) sc vb vo (fun e=>(x.wo.R e 0).n) vc (sO x.pi) (qO x.wo) (ckE v x) hchk hWd (fun _=>hCF) (fun _=>h0.2.2.2.2)).mono fun e w' h=>hout _ _ e w' h (by rw[ht];rfl) (by rw[ht];rfl)
    ·obtain⟨ga,ra,qa,gc,gb,goff,rc,rb,ro,qc,qb,qo,xa,xb,xo,xc,y1,y2,y4,hCF⟩:=YH hm (hcv 7 _ rfl) (hcv 9 _ rfl) (hcv 10 _ rfl) h0;rw[y1,y2,y4]at hchk⊢;have ht:Jn x=rnT x:=by
      unfold Jn;rw[h0.1];rfl
     rw[h0.1]at hchk⊢;exact(VY w _ _ _ _ _ _ _ x.pc x.rr x.ld x.cl ga ra qa x.fv.n gc gb goff x.lr.n rc rb ro x.lp.n qc qb qo xa xb xo (fun e=>(x.fv.R e 0).n) xc (Wi x.fv) (Ii x.lr) (Ii x.lp) (ckE v x) hchk hWd (fun _=>hCF) (fun _=>h0.2.2.2.2.2.2.2.2.2.2.2)).mono fun e w' h=>hout _ _ e w' h (by rw[ht];rfl) (by rw[ht];rfl)
  ·cases hF
 ·cases hF
end Go.Proofs.YtnljjjghpgdmoaaGreatDoor
namespace Go.Proofs.YtnljjjghpgdmoaaGreatDoor
open Go.Ev Go.Lib
set_option maxRecDepth 100000
def V4(tc:Dc->Bool)(tS:Dc->ByteArray)(tE:Dc->Int):FD
 |[d]=>match Hg d with
  |some x=>some (tc x,[.v (.string (tS x)),.v (i64 (tE x))])
  |none=>none
 |_=>none
noncomputable def CA(tc:Dc->Bool)(tS:Dc->ByteArray)(tE:Dc->Int):Cx:=AU Tryz.prog fns [(140,Fsum),(39,FGu Ld.gpC Ld.gpR Ld.ckE),(6,V4 tc tS tE)] []
def bB:Row:=w_ (((Row.zeros 2).setI 0 0 5).setI 1 0 (-5)) 0 2
def gG:Row:=w_ (((Row.zeros 2).setR 0 0 (w_ (((Row.zeros 2).setI 0 0 3).setI 1 0 1) 0 2)).setR 1 0 (w_ (((Row.zeros 2).setI 0 0 2).setI 1 0 2) 0 2)) 0 2
def aA:Row:=w_ (((Row.zeros 2).setI 0 0 0).setI 1 0 1) 0 2
def sSettled:ByteArray:=⟨⟨[100,111,99,117,109,101,110,116,32,115,101,116,116,108,101,10,98,97,108,97,110,99,101,115,32,53,32,45,53,10,112,97,121,32,48,32,49,32,53,10,99,108,97,105,109,115,32,51,10]⟩⟩
def sGiven:ByteArray:=⟨⟨[100,111,99,117,109,101,110,116,32,103,111,111,100,115,10,118,97,108,117,101,115,32,51,32,49,10,118,97,108,117,101,115,32,50,32,50,10,103,105,118,101,32,48,32,49,10,99,108,97,105,109,115,32,51,49,10]⟩⟩
def wD(x:Dc):Dc:=⟨x.k,Ad x.ca,Ad x.pi,x.pc,Ad x.wo,Ad x.gv,Ad x.aa,Ad x.fv,x.rr,Ad x.lr,Ad x.lp,x.ld,Ad x.ba,Ad x.pa,x.cl⟩
def bB2:Row:=Row.nil.app (w_ bB 0 2)
def pS:Row:=w_ (Row.nil.app (w_ ((((Row.zeros 1).setI 0 0 0).setI 0 1 (IntKind.i64.wrap 1)).setI 0 2 (if IntKind.i64.wrap (0-bB2.I (0+(IntKind.i64.wrap 1).toNat) 0)<bB2.I (0+0) 0 then IntKind.i64.wrap (0-bB2.I 1 0)else bB2.I 0 0)) 0 1)) 0 1
def d1:Dc:=⟨4,.nil,.nil,0,.nil,.nil,.nil,.nil,0,.nil,.nil,0,w_ (Row.nil.app bB) 0 2,pS,3⟩
def gR1(i:Nat):Row:=w_ ((Row.zeros 1).setR 0 0 (w_ (Row.nil.app (w_ (gG.R i 0) 0 2)) 0 2)) 0 1
def d2:Dc:=⟨2,.nil,.nil,0,.nil,w_ ((w_ (Row.nil.app (gR1 0)) 0 1).app (gR1 1)) 0 2,w_ (Row.nil.app aA) 0 2,.nil,0,.nil,.nil,0,.nil,.nil,31⟩
def fF:OD:=some [.v (.bool false)]
theorem u4(tc:Dc->Bool)(tS:Dc->ByteArray)(tE:Dc->Int):BZ (CA tc tS tE) 16 13 []=br (tc d1) (br (tE d1==0) (br ((tS d1).toList==sSettled.toList) (br (tc d2) (br (tE d2==0) (some [.v (.bool ((tS d2).toList==sGiven.toList))]) fF) none) fF) fF) none:=by kernel_rfl
theorem lJ:DenW Tryz.prog Wd 39 (FGu Ld.gpC Ld.gpR Ld.ckE):=(Ld.den_groups.mono (fun w h=>h.tz)).less fun ds rs h=>by
 unfold FGu at h;split at h
 ·exact h
 ·cases h
def vB:Ck:=⟨sqC,wP,fH,Uw,Uo,PH,YQ (Vo (fun a _=>decide (a.n<=1000000))),YP (TR KY),Ld.gpC,Ld.gpR,Ld.ckE,Ld.Lg.chk⟩
theorem yN:vB.Ok where
 sq:=den_sq.at _
 pc:=den_pro.at _
 rc:=den_roo.at _
 rv:=den_rv.at _
 gu:=lJ
 lc:=(Ld.Lg.den7.at _).less fun ds rs h=>by
  unfold FLc at h;split at h
  ·exact h
  ·cases h
def tcG(x:Dc):Bool:=wO vB x&&(ckE vB x !=0||YL x)
def vX(x:Dc):ByteArray:=P9 (ckE vB x) (Jn x)
def qN(x:Dc):Int:=Me (ckE vB x) (Jn x)
theorem den_teV:DenW Tryz.prog Wd 6 (V4 tcG vX qN):=(den_text yN).less fun ds rs h=>by
 unfold V4 at h;split at h
 ·exact h
 ·cases h
theorem Aii:P8 (CA tcG vX qN) Wd:=CP enter mixed (fun p h=>by
 simp only[A8,A7,or_false]at h;rcases h with rfl|rfl|rfl
 ·exact den_sum.at _
 ·exact lJ
 ·exact den_teV) (fun l h=>by cases h)
theorem Ak{α:Type}{c:Bool}{x y r:Option α}(h:c=true)(hx:x=r):br c x y=r:=by rw[h];exact hx
theorem Dq{α:Type}{c:Bool}{x y r:Option α}(h:c=false)(hx:y=r):br c x y=r:=by rw[h];exact hx
theorem al4:tcG d1=true:=by kernel_rfl
theorem al5:(qN d1==0)=true:=by kernel_rfl
theorem al6:((vX d1).toList==sSettled.toList)=true:=by kernel_rfl
theorem al7:tcG d2=true:=by kernel_rfl
theorem al9:(qN d2==0)=true:=by kernel_rfl
theorem Ak5:((vX d2).toList==sGiven.toList)=true:=by kernel_rfl
def Fal:FD
 |[]=>some (true,[.v (.bool true)])
 |_=>none
theorem Y3:DenW Tryz.prog Wd 13 Fal:=DR Aii fun ds rs h=>by
 unfold Fal at h;split at h
 ·cases h;exact(u4 ..).trans (Ak al4 (Ak al5 (Ak al6 (Ak al7 (Ak al9 (congrArg (fun b=>some [D.v (.bool b)]) Ak5))))))
 ·cases h
open Go.RowKit
abbrev ksS:List CK:=[.str]
def pO(r:Row)(x:Int):Row:=(w_ r 0 r.n).app (w_ ((Row.zeros 1).setI 0 0 x) 0 1)
def Zt(r:Row)(x y:Int):Row:=(w_ r 0 r.n).app (w_ (((Row.zeros 1).setI 0 0 x).setI 0 1 y) 0 1)
abbrev szP(r:Row):Prop:=∀i,i<r.n->(r.S i 0).size<=4000000000
def yJ:Ed:={τ:=pu 4++[.v (.sl 0)]++pu 4++[.v (.sl 1),.v (.int .i64),.v (.int .i64)]++pu 16,saved:=[[]],mem:=[.row [.int .i64] true,.row [.str] false]}
structure A_lin where
 on:Nat
 n:Nat
 len:Int
 j:Int
 o:Row
 r:Row
def oN(its:List It):Option A_lin:=match its with|[.n on,.n n,.i len,.i j,.r o,.r r]=>some ⟨on,n,len,j,o,r⟩|_=>none
def Zw(x:A_lin):Bool:=x.j=0∧x.len=x.n∧x.on=x.o.n∧x.n<=1000000∧szP x.r∧x.r.n=x.n∧x.o.n=0
def c_lin_iff{x:A_lin}:=@BC _ Zw _ _ rfl x
def lin:RunL A_lin (Row):=⟨72,3,[4,9,10,11,1960004],[2,3,4],yJ,oN,fun x j a=>[.n a.n,.n x.n,.i (x.n:Int),.i (j:Int),.r a,.r x.r],fun x=>x.n,Zw,fun x=>x.o,fun x j a=>XL (Ae (x.r.S j 0)),fun x j a=>pO a (WW (Ae (x.r.S j 0))),fun x j a K=>K .ret ⟨us 2++[.slice none 0 0,.bool false,.slice (some ⟨0,0,some 0⟩) ((a.n)) 0]++us 23,[[]],[some (.row [.int .i64] true ((a)))]⟩,fun x a K=>K (.exit 0) ⟨us 4++[.slice (some ⟨0,0,some 0⟩) ((a.n)) 0]++us 23,[[]],[some (.row [.int .i64] true ((a)))]⟩⟩
def xC:Ed:={τ:=pu 4++[.v (.sl 0)]++pu 4++[.v (.sl 1),.v (.int .i64),.v (.int .i64)]++pu 16,saved:=[[]],mem:=[.row [.int .i64,.int .i64] true,.row [.str] false]}
structure A_len where
 on:Nat
 n:Nat
 len:Int
 j:Int
 o:Row
 r:Row
def kN(its:List It):Option A_len:=match its with|[.n on,.n n,.i len,.i j,.r o,.r r]=>some ⟨on,n,len,j,o,r⟩|_=>none
def fJ(x:A_len):Bool:=x.j=0∧x.len=x.n∧x.on=x.o.n∧x.n<=1000000∧szP x.r∧x.r.n=x.n∧x.o.n=0
def c_len_iff{x:A_len}:=@BC _ fJ _ _ rfl x
def len:RunL A_len (Row):=⟨115,3,[4,9,10,11,31400004],[2,3,4],xC,kN,fun x j a=>[.n a.n,.n x.n,.i (x.n:Int),.i (j:Int),.r a,.r x.r],fun x=>x.n,fJ,fun x=>x.o,fun x j a=>Rt.rpE (Ae (x.r.S j 0)) !=0,fun x j a=>Zt a (Rt.rpN (Ae (x.r.S j 0))) (Rt.rpD (Ae (x.r.S j 0))),fun x j a K=>K .ret ⟨us 2++[.slice none 0 0,.bool false,.slice (some ⟨0,0,some 0⟩) ((a.n)) 0]++us 23,[[]],[some (.row [.int .i64,.int .i64] true ((a)))]⟩,fun x a K=>K (.exit 0) ⟨us 4++[.slice (some ⟨0,0,some 0⟩) ((a.n)) 0]++us 23,[[]],[some (.row [.int .i64,.int .i64] true ((a)))]⟩⟩
noncomputable def Cin:Cx:=AU Tryz.prog fns [(116,iM)] [lin.C]
noncomputable def Cen:Cx:=AU Tryz.prog fns [(153,Rt.Fps)] [len.C]
theorem Ab1(R:St->OD)(K:X->St->OD)(q on n:Nat)(len j:Int)(o r:Row):Ar Cin 72 3 q (bst yJ [.n on,.n n,.i len,.i j,.r o,.r r]) (BI [4,9,10,11,1960004] (some [2,3,4]) R K)=br (j<len) (br (0<=j&&j<(n:Int)) (br ((r.S (0+j.toNat) 0).size<=4294967296) (br (XL (Ae (r.S (0+j.toNat) 0))) (K .ret ⟨us 2++[.slice none 0 0,.bool false,S_ 0 0 on]++us 23,[[]],[some (.row [.int .i64] true o)]⟩) (br (on+(w_ ((Row.zeros 1).setI 0 0 (WW (Ae (r.S (0+j.toNat) 0)))) 0 1).n<=10000000000) (R ⟨us 4++[S_ 0 0 (on+1)]++us 4++[S_ 1 0 n,i64 len,i64 (IntKind.i64.wrap (j+1))]++us 16,[[]],[some (.row [.int .i64] true ((w_ o 0 on).app (w_ ((Row.zeros 1).setI 0 0 (WW (Ae (r.S (0+j.toNat) 0)))) 0 1))),some (.row [.str] false r)]⟩) none)) none) none) (K (.exit 0) ⟨us 4++[S_ 0 0 on]++us 23,[[]],[some (.row [.int .i64] true o)]⟩):=by kernel_rfl
theorem Ab0(R:St->OD)(K:X->St->OD)(q on n:Nat)(len j:Int)(o r:Row):Ar Cen 115 3 q (bst xC [.n on,.n n,.i len,.i j,.r o,.r r]) (BI [4,9,10,11,31400004] (some [2,3,4]) R K)=br (j<len) (br (0<=j&&j<(n:Int)) (br ((r.S (0+j.toNat) 0).size<=4000000000) (br (Rt.rpE (Ae (r.S (0+j.toNat) 0)) !=0) (K .ret ⟨us 2++[.slice none 0 0,.bool false,S_ 0 0 on]++us 23,[[]],[some (.row [.int .i64,.int .i64] true o)]⟩) (br (on+(w_ (((Row.zeros 1).setI 0 0 (Rt.rpN (Ae (r.S (0+j.toNat) 0)))).setI 0 1 (Rt.rpD (Ae (r.S (0+j.toNat) 0)))) 0 1).n<=10000000000) (R ⟨us 4++[S_ 0 0 (on+1)]++us 4++[S_ 1 0 n,i64 len,i64 (IntKind.i64.wrap (j+1))]++us 16,[[]],[some (.row [.int .i64,.int .i64] true ((w_ o 0 on).app (w_ (((Row.zeros 1).setI 0 0 (Rt.rpN (Ae (r.S (0+j.toNat) 0)))).setI 0 1 (Rt.rpD (Ae (r.S (0+j.toNat) 0)))) 0 1))),some (.row [.str] false r)]⟩) none)) none) none) (K (.exit 0) ⟨us 4++[S_ 0 0 on]++us 23,[[]],[some (.row [.int .i64,.int .i64] true o)]⟩):=by kernel_rfl
theorem uin(r:Row):BZ Cin 6 72 [.slice ksS r]=br (Zw (⟨0,r.n,(r.n:Int),0,Row.nil,r⟩:A_lin)) (br ((CY (lin.stop (⟨0,r.n,(r.n:Int),0,Row.nil,r⟩:A_lin)) (lin.nx (⟨0,r.n,(r.n:Int),0,Row.nil,r⟩:A_lin)) (lin.len (⟨0,r.n,(r.n:Int),0,Row.nil,r⟩:A_lin)) 0 (lin.ini (⟨0,r.n,(r.n:Int),0,Row.nil,r⟩:A_lin))).1) (some [.slice [.int .i64] Row.nil,.v (.bool false)]) (some [.slice [.int .i64] (w_ (CY (lin.stop (⟨0,r.n,(r.n:Int),0,Row.nil,r⟩:A_lin)) (lin.nx (⟨0,r.n,(r.n:Int),0,Row.nil,r⟩:A_lin)) (lin.len (⟨0,r.n,(r.n:Int),0,Row.nil,r⟩:A_lin)) 0 (lin.ini (⟨0,r.n,(r.n:Int),0,Row.nil,r⟩:A_lin))).snd.2 0 (CY (lin.stop (⟨0,r.n,(r.n:Int),0,Row.nil,r⟩:A_lin)) (lin.nx (⟨0,r.n,(r.n:Int),0,Row.nil,r⟩:A_lin)) (lin.len (⟨0,r.n,(r.n:Int),0,Row.nil,r⟩:A_lin)) 0 (lin.ini (⟨0,r.n,(r.n:Int),0,Row.nil,r⟩:A_lin))).snd.2.n),.v (.bool true)])) (none):=by kernel_rfl
theorem uen(r:Row):BZ Cen 6 115 [.slice ksS r]=br (fJ (⟨0,r.n,(r.n:Int),0,Row.nil,r⟩:A_len)) (br ((CY (len.stop (⟨0,r.n,(r.n:Int),0,Row.nil,r⟩:A_len)) (len.nx (⟨0,r.n,(r.n:Int),0,Row.nil,r⟩:A_len)) (len.len (⟨0,r.n,(r.n:Int),0,Row.nil,r⟩:A_len)) 0 (len.ini (⟨0,r.n,(r.n:Int),0,Row.nil,r⟩:A_len))).1) (some [.slice [.int .i64,.int .i64] Row.nil,.v (.bool false)]) (some [.slice [.int .i64,.int .i64] (w_ (CY (len.stop (⟨0,r.n,(r.n:Int),0,Row.nil,r⟩:A_len)) (len.nx (⟨0,r.n,(r.n:Int),0,Row.nil,r⟩:A_len)) (len.len (⟨0,r.n,(r.n:Int),0,Row.nil,r⟩:A_len)) 0 (len.ini (⟨0,r.n,(r.n:Int),0,Row.nil,r⟩:A_len))).snd.2 0 (CY (len.stop (⟨0,r.n,(r.n:Int),0,Row.nil,r⟩:A_len)) (len.nx (⟨0,r.n,(r.n:Int),0,Row.nil,r⟩:A_len)) (len.len (⟨0,r.n,(r.n:Int),0,Row.nil,r⟩:A_len)) 0 (len.ini (⟨0,r.n,(r.n:Int),0,Row.nil,r⟩:A_len))).snd.2.n),.v (.bool true)])) (none):=by kernel_rfl
theorem Aby:Ai Cin lin.C:=lin.ok (fun _ j a=>a.n=j) (by kernel_rfl)
 (fun its x h hc=>by
  replace h:oN its=some x:=h;unfold oN at h;split at h
  ·cases h;obtain⟨h1,h2,h3,h4,h5,h6,h7⟩:=c_lin_iff.1 hc;dsimp only at h1 h2 h3;subst h1 h2 h3;rfl
  ·cases h)
 (fun x hc=>by have:=c_lin_iff.1 hc;show x.n<18446744073709551616;omega)
 (fun x hc=>by
  exact(c_lin_iff.1 hc).2.2.2.2.2.2)
 (fun x j a hc hi hI hs=>by
  show a.n+1=j+1;have hI:a.n=j:=hI;rw[hI])
 (fun q ⟨on0,n,len0,j0,o0,r⟩ j a hc hi hI R K=>by
  obtain⟨h1,h2,h3,h4,h5,h6,h7⟩:=c_lin_iff.1 hc;dsimp only at*
  replace hi:j<n:=hi;refine(Ab1 R K q ((a.n)) n ((n:Int)) ((j:Int)) ((a)) r).trans ?_;have k1:=h5 j (by omega);rw[A9,AE j,gd j n hi,Fe j n hi,FH (by omega),A4 (show(r.S j 0).size<=4294967296 by omega)];show br (XL (Ae (r.S j 0))) _ (br (decide (a.n+1<=10000000000)) _ none)=_;rw[A4 (show a.n+1<=10000000000 by omega)];rfl)
 (fun q ⟨on0,n,len0,j0,o0,r⟩ a hc hI R K=>by
  obtain⟨h1,h2,h3,h4,h5,h6,h7⟩:=c_lin_iff.1 hc;dsimp only at*
  refine(Ab1 R K q ((a.n)) n ((n:Int)) ((n:Int)) ((a)) r).trans ?_;rw[F8 n];rfl)
theorem Adv:Ai Cen len.C:=len.ok (fun _ j a=>a.n=j) (by kernel_rfl)
 (fun its x h hc=>by
  replace h:kN its=some x:=h;unfold kN at h;split at h
  ·cases h;obtain⟨h1,h2,h3,h4,h5,h6,h7⟩:=c_len_iff.1 hc;dsimp only at h1 h2 h3;subst h1 h2 h3;rfl
  ·cases h)
 (fun x hc=>by have:=c_len_iff.1 hc;show x.n<18446744073709551616;omega)
 (fun x hc=>by
  exact(c_len_iff.1 hc).2.2.2.2.2.2)
 (fun x j a hc hi hI hs=>by
  show a.n+1=j+1;have hI:a.n=j:=hI;rw[hI])
 (fun q ⟨on0,n,len0,j0,o0,r⟩ j a hc hi hI R K=>by
  obtain⟨h1,h2,h3,h4,h5,h6,h7⟩:=c_len_iff.1 hc;dsimp only at*
  replace hi:j<n:=hi;refine(Ab0 R K q ((a.n)) n ((n:Int)) ((j:Int)) ((a)) r).trans ?_;have k1:=h5 j (by omega);rw[A9,AE j,gd j n hi,Fe j n hi,FH (by omega),A4 (show(r.S j 0).size<=4000000000 by omega)];show br (Rt.rpE (Ae (r.S j 0)) !=0) _ (br (decide (a.n+1<=10000000000)) _ none)=_;rw[A4 (show a.n+1<=10000000000 by omega)];rfl)
 (fun q ⟨on0,n,len0,j0,o0,r⟩ a hc hI R K=>by
  obtain⟨h1,h2,h3,h4,h5,h6,h7⟩:=c_len_iff.1 hc;dsimp only at*
  refine(Ab0 R K q ((a.n)) n ((n:Int)) ((n:Int)) ((a)) r).trans ?_;rw[F8 n];rfl)
theorem Oh{β:Type}{stop:Nat->β->Bool}{nx:Nat->β->β}{p:Nat->Bool}(hp:∀j a,stop j a=p j):∀(m j:Nat)(a:β),(CY stop nx m j a).1=Ap p m j∧(Ap p m j=false->(CY stop nx m j a).2.2=AP nx m j a)
 |0,j,a=>⟨rfl,fun _=>rfl⟩
 |m+1,j,a=>by
  obtain⟨h1,h2⟩:=Oh hp (nx:=nx) m (j+1) (nx j a);show(bif stop j a then(true,j,a)else CY stop nx m (j+1) (nx j a)).1=(p j||Ap p m (j+1))∧((p j||Ap p m (j+1))=false->(bif stop j a then(true,j,a)else CY stop nx m (j+1) (nx j a)).2.2=AP nx m (j+1) (nx j a));rw[hp];cases p j
  ·exact⟨h1,h2⟩
  ·exact⟨rfl,fun h=>by cases h⟩
theorem Ox(r s:Row){i:Nat}(h:i<r.n):((r.app s).I i=r.I i∧(r.app s).S i=r.S i)∧(r.app s).R i=r.R i:=by
 have e:Nat.blt i r.n=true:=by rw[Nat.blt_eq];exact h
 refine⟨⟨funext fun j=>?_,funext fun j=>?_⟩,funext fun j=>?_⟩
 ·show(bif Nat.blt i r.n then _ else _)=_;rw[e];rfl
 ·show(bif Nat.blt i r.n then _ else _)=_;rw[e];rfl
 ·show(bif Nat.blt i r.n then _ else _)=_;rw[e];rfl
theorem OQ(r s:Row){i:Nat}(h:¬i<r.n):((r.app s).I i=s.I (i-r.n)∧(r.app s).S i=s.S (i-r.n))∧(r.app s).R i=s.R (i-r.n):=by
 have e:Nat.blt i r.n=false:=by
  cases hb:Nat.blt i r.n
  ·rfl
  ·rw[Nat.blt_eq]at hb;exact absurd hb h
 refine⟨⟨funext fun j=>?_,funext fun j=>?_⟩,funext fun j=>?_⟩
 ·show(bif Nat.blt i r.n then _ else _)=_;rw[e];rfl
 ·show(bif Nat.blt i r.n then _ else _)=_;rw[e];rfl
 ·show(bif Nat.blt i r.n then _ else _)=_;rw[e];rfl
theorem Ah5(r:Row)(i j:Nat):(Ad r).I i j=r.I i j:=by
 refine(Ea r 0 r.n i j).trans ?_;rw[AE]
theorem Aiy(r:Row)(x:Int):(pO r x).n=r.n+1:=rfl
theorem Adf(r:Row)(x:Int){i:Nat}(h:i<r.n):(pO r x).I i 0=r.I i 0:=congrFun (Ox (w_ r 0 r.n) (w_ ((Row.zeros 1).setI 0 0 x) 0 1) (i:=i) h).1.1 0
theorem Aed(r:Row)(x:Int):(pO r x).I r.n 0=x:=by
 refine(congrFun (OQ (w_ r 0 r.n) (w_ ((Row.zeros 1).setI 0 0 x) 0 1) (i:=r.n) (Nat.lt_irrefl _)).1.1 0).trans ?_;rw[show r.n-(w_ r 0 r.n).n=0 from Nat.sub_self _];rfl
theorem Aj8(r:Row)(x y:Int):(Zt r x y).n=r.n+1:=rfl
theorem oM(r:Row)(x y:Int){i:Nat}(h:i<r.n)(c:Nat):(Zt r x y).I i c=r.I i c:=congrFun (Ox (w_ r 0 r.n) (w_ (((Row.zeros 1).setI 0 0 x).setI 0 1 y) 0 1) (i:=i) h).1.1 c
theorem mF(r:Row)(x y:Int):(Zt r x y).I r.n 0=x∧(Zt r x y).I r.n 1=y:=by
 have h:=(OQ (w_ r 0 r.n) (w_ (((Row.zeros 1).setI 0 0 x).setI 0 1 y) 0 1) (i:=r.n) (Nat.lt_irrefl _)).1.1;have e:r.n-(w_ r 0 r.n).n=0:=Nat.sub_self _;refine⟨(congrFun h 0).trans ?_,(congrFun h 1).trans ?_⟩<;>rw[e]<;>rfl
def ZB(r:Row):Bool×Nat×Row:=CY (fun j _=>XL (Ae (r.S j 0))) (fun j a=>pO a (WW (Ae (r.S j 0)))) r.n 0 .nil
def DJ(r:Row):Bool:= !(ZB r).1
def BD(r:Row):Row:=bif (ZB r).1 then .nil else Ad (ZB r).2.2
def bK(r:Row):Bool×Nat×Row:=CY (fun j _=>Rt.rpE (Ae (r.S j 0)) !=0) (fun j a=>Zt a (Rt.rpN (Ae (r.S j 0))) (Rt.rpD (Ae (r.S j 0)))) r.n 0 .nil
def Em(r:Row):Bool:= !(bK r).1
def Dy(r:Row):Row:=bif (bK r).1 then .nil else Ad (bK r).2.2
def BN(r:Row):Bool:=decide (r.n<=1000000)&& !Ap (fun j=>decide (4000000000<(r.S j 0).size)) r.n 0
theorem Q8{r:Row}(h:BN r=true):r.n<=1000000∧szP r:=by
 unfold BN at h;rw[A2,Bool.not_eq_true',A3]at h;exact⟨h.1,fun i hi=>by have:=anyF_false.1 h.2 i (Nat.zero_le _) (by omega);have:=AO this;omega⟩
theorem VR{r:Row}(h1:r.n<=1000000)(h2:szP r):BN r=true:=by
 unfold BN;rw[A2,Bool.not_eq_true',A3];exact⟨h1,anyF_false.2 fun j _ hj=>AB (by have:=h2 j (by omega);omega)⟩
def U6(c:Row->Bool)(o:Row->Row)(b:Row->Bool):FD
 |[.slice [.str] r]=>some (c r,[.slice [.int .i64] (o r),.v (.bool (b r))])
 |_=>none
def UE(c:Row->Bool)(o:Row->Row)(b:Row->Bool):FD
 |[.slice [.str] r]=>some (c r,[.slice [.int .i64,.int .i64] (o r),.v (.bool (b r))])
 |_=>none
theorem Abd:P8 Cin Wd:=CP enter mixed (fun p h=>by
 simp only[A8,A7,or_false]at h;rcases h with rfl;exact jW) (fun l h=>by
 simp only[A8,A7,or_false]at h;rcases h with rfl;exact Aby)
theorem Afy:P8 Cen Wd:=CP enter mixed (fun p h=>by
 simp only[A8,A7,or_false]at h;rcases h with rfl;exact Rt.den_parp) (fun l h=>by
 simp only[A8,A7,or_false]at h;rcases h with rfl;exact Adv)
theorem UO:DenW Tryz.prog Wd 72 (U6 BN BD DJ):=DR Abd fun ds rs h=>by
 unfold U6 at h;split at h
 ·rename_i r;simp only[A5,A6]at h;obtain⟨h0,rfl⟩:=h;obtain⟨h1,h2⟩:=Q8 h0;refine(uin r).trans ?_;rw[c_lin_iff.2 ⟨rfl,rfl,rfl,h1,h2,rfl,rfl⟩,Aa];show br (ZB r).1 (some [D.slice [.int .i64] .nil,D.v (.bool false)]) (some [D.slice [.int .i64] (Ad (ZB r).2.2),D.v (.bool true)])=_;unfold BD DJ;cases(ZB r).1<;>rfl
 ·cases h
theorem U9:DenW Tryz.prog Wd 115 (UE BN Dy Em):=DR Afy fun ds rs h=>by
 unfold UE at h;split at h
 ·rename_i r;simp only[A5,A6]at h;obtain⟨h0,rfl⟩:=h;obtain⟨h1,h2⟩:=Q8 h0;refine(uen r).trans ?_;rw[c_len_iff.2 ⟨rfl,rfl,rfl,h1,h2,rfl,rfl⟩,Aa];show br (bK r).1 (some [D.slice [.int .i64,.int .i64] .nil,D.v (.bool false)]) (some [D.slice [.int .i64,.int .i64] (Ad (bK r).2.2),D.v (.bool true)])=_;unfold Dy Em;cases(bK r).1<;>rfl
 ·cases h
theorem jH(f:Nat->Int):∀(m j:Nat)(a:Row),a.n=j->(∀i,i<j->a.I i 0=f i)->(AP (fun j a=>pO a (f j)) m j a).n=j+m∧∀i,i<j+m->(AP (fun j a=>pO a (f j)) m j a).I i 0=f i
 |0,j,a,h1,h2=>⟨h1,h2⟩
 |m+1,j,a,h1,h2=>by
  have h:=jH f m (j+1) (pO a (f j)) (by rw[Aiy,h1]) (fun i hi=>by
   by_cases hij:i<j
   ·rw[Adf _ _ (by omega)];exact h2 i hij
   ·have:i=a.n:=by omega
    rw[this,Aed,h1])
  rw[show j+(m+1)=j+1+m by omega];exact h
theorem WU(f g:Nat->Int):∀(m j:Nat)(a:Row),a.n=j->(∀i,i<j->a.I i 0=f i∧a.I i 1=g i)->(AP (fun j a=>Zt a (f j) (g j)) m j a).n=j+m∧∀i,i<j+m->(AP (fun j a=>Zt a (f j) (g j)) m j a).I i 0=f i∧(AP (fun j a=>Zt a (f j) (g j)) m j a).I i 1=g i
 |0,j,a,h1,h2=>⟨h1,h2⟩
 |m+1,j,a,h1,h2=>by
  have h:=WU f g m (j+1) (Zt a (f j) (g j)) (by rw[Aj8,h1]) (fun i hi=>by
   by_cases hij:i<j
   ·rw[oM _ _ _ (by omega),oM _ _ _ (by omega)];exact h2 i hij
   ·have:i=a.n:=by omega
    rw[this,(mF ..).1,(mF ..).2,h1];exact⟨rfl,rfl⟩)
  rw[show j+(m+1)=j+1+m by omega];exact h
theorem dN(r:Row):DJ r= !Ap (fun j=>XL (Ae (r.S j 0))) r.n 0∧(DJ r=true->(BD r).n=r.n∧∀i,i<r.n->(BD r).I i 0=WW (Ae (r.S i 0))):=by
 obtain⟨h1,h2⟩:=Oh (stop:=fun j (_:Row)=>XL (Ae (r.S j 0))) (nx:=fun j a=>pO a (WW (Ae (r.S j 0)))) (p:=fun j=>XL (Ae (r.S j 0))) (fun _ _=>rfl) r.n 0 .nil;refine⟨by unfold DJ ZB;rw[h1],fun h=>?_⟩;have hx:(ZB r).1=false:=by unfold DJ at h;simpa using h
 have e:(ZB r).2.2=AP (fun j a=>pO a (WW (Ae (r.S j 0)))) r.n 0 .nil:=h2 (h1.symm.trans hx);obtain⟨h3,h4⟩:=jH (fun j=>WW (Ae (r.S j 0))) r.n 0 .nil rfl (fun i hi=>absurd hi (Nat.not_lt_zero _));unfold BD;rw[hx,e];refine⟨h3.trans (AE _),fun i hi=>?_⟩;show(Ad _).I i 0=_;rw[Ah5];exact h4 i (by omega)
theorem bM(r:Row):Em r= !Ap (fun j=>Rt.rpE (Ae (r.S j 0)) !=0) r.n 0∧(Em r=true->(Dy r).n=r.n∧∀i,i<r.n->(Dy r).I i 0=Rt.rpN (Ae (r.S i 0))∧(Dy r).I i 1=Rt.rpD (Ae (r.S i 0))):=by
 obtain⟨h1,h2⟩:=Oh (stop:=fun j (_:Row)=>Rt.rpE (Ae (r.S j 0)) !=0) (nx:=fun j a=>Zt a (Rt.rpN (Ae (r.S j 0))) (Rt.rpD (Ae (r.S j 0)))) (p:=fun j=>Rt.rpE (Ae (r.S j 0)) !=0) (fun _ _=>rfl) r.n 0 .nil;refine⟨by unfold Em bK;rw[h1],fun h=>?_⟩;have hx:(bK r).1=false:=by unfold Em at h;simpa using h
 have e:(bK r).2.2=AP (fun j a=>Zt a (Rt.rpN (Ae (r.S j 0))) (Rt.rpD (Ae (r.S j 0)))) r.n 0 .nil:=h2 (h1.symm.trans hx);obtain⟨h3,h4⟩:=WU (fun j=>Rt.rpN (Ae (r.S j 0))) (fun j=>Rt.rpD (Ae (r.S j 0))) r.n 0 .nil rfl (fun i hi=>absurd hi (Nat.not_lt_zero _));unfold Dy;rw[hx,e];refine⟨h3.trans (AE _),fun i hi=>?_⟩;show(Ad _).I i 0=_∧(Ad _).I i 1=_;rw[Ah5,Ah5];exact h4 i (by omega)
theorem Aho(r:Row):(BD r).n<=r.n:=by
 cases h:DJ r
 ·unfold BD;unfold DJ at h;rw[show(ZB r).1=true by simpa using h];exact Nat.zero_le _
 ·exact Nat.le_of_eq ((dN r).2 h).1
theorem Aiw(r:Row):(Dy r).n<=r.n:=by
 cases h:Em r
 ·unfold Dy;unfold Em at h;rw[show(bK r).1=true by simpa using h];exact Nat.zero_le _
 ·exact Nat.le_of_eq ((bM r).2 h).1
def Ej(j:Nat):ByteArray:=sDocument++(match j with|0=>sCake|1=>sGoods|2=>sRent|_=>sSettle)
def Ail(s rest:ByteArray)(k:Int):St:=⟨[.string s]++us 1++[.pointer (some ⟨0,0,some 0⟩)]++us 2++[.string rest]++us 1++[.pointer (some ⟨1,0,some 0⟩)]++us 58,[[]],[some (.box [.int .u8 0,.slice none 0 0,.slice none 0 0,.int .u8 0,.slice none 0 0,.slice none 0 0,.slice none 0 0,.slice none 0 0,i64 0,.slice none 0 0,.slice none 0 0,i64 0,.slice none 0 0,.slice none 0 0,.int .u8 0]),some (.box [.int .u8 k,.slice none 0 0,.slice none 0 0,.int .u8 0,.slice none 0 0,.slice none 0 0,.slice none 0 0,.slice none 0 0,i64 0,.slice none 0 0,.slice none 0 0,i64 0,.slice none 0 0,.slice none 0 0,.int .u8 0])]⟩
def Jv:Ed:={τ:=[.v (.str)]++pu 1++[.v (.c (.pointer (some ⟨0,0,some 0⟩)))]++pu 1++[.v (.str),.v (.str)]++pu 1++[.v (.c (.pointer (some ⟨1,0,some 0⟩)))]++pu 17++[.agg [.str,.str,.str,.str],.v (.int .i64)]++pu 39,saved:=[[]],mem:=[.box [.v (.c (.int .u8 0)),.v (.c (.slice none 0 0)),.v (.c (.slice none 0 0)),.v (.c (.int .u8 0)),.v (.c (.slice none 0 0)),.v (.c (.slice none 0 0)),.v (.c (.slice none 0 0)),.v (.c (.slice none 0 0)),.v (.c (.int .i64 0)),.v (.c (.slice none 0 0)),.v (.c (.slice none 0 0)),.v (.c (.int .i64 0)),.v (.c (.slice none 0 0)),.v (.c (.slice none 0 0)),.v (.c (.int .u8 0))],.box [.v (.int .u8),.v (.c (.slice none 0 0)),.v (.c (.slice none 0 0)),.v (.c (.int .u8 0)),.v (.c (.slice none 0 0)),.v (.c (.slice none 0 0)),.v (.c (.slice none 0 0)),.v (.c (.slice none 0 0)),.v (.c (.int .i64 0)),.v (.c (.slice none 0 0)),.v (.c (.slice none 0 0)),.v (.c (.int .i64 0)),.v (.c (.slice none 0 0)),.v (.c (.slice none 0 0)),.v (.c (.int .u8 0))]]}
structure A_lpk where
 s:ByteArray
 hd:ByteArray
 rest:ByteArray
 w1:ByteArray
 w2:ByteArray
 w3:ByteArray
 w4:ByteArray
 j:Int
 k:Int
def fO(its:List It):Option A_lpk:=match its with|[.s s,.s hd,.s rest,.s w1,.s w2,.s w3,.s w4,.i j,.i k]=>some ⟨s,hd,rest,w1,w2,w3,w4,j,k⟩|_=>none
def yH(x:A_lpk):Bool:=x.j=0∧x.w1=sCake∧x.w2=sGoods∧x.w3=sRent∧x.w4=sSettle
def c_lpk_iff{x:A_lpk}:=@BC _ yH _ _ rfl x
def lpk:FoldL A_lpk (Int):=⟨8,6,[0,2,4,5,7,25,26],[0,2,3,5,7],Jv,fO,fun x j a=>[.s x.s,.s x.hd,.s x.rest,.s x.w1,.s x.w2,.s x.w3,.s x.w4,.i (j:Int),.i a],fun x=>4,yH,fun x=>x.k,fun x j a=>bif x.hd.toList==(Ej j).toList then(j:Int)+1 else a,fun x a K=>K (.exit 0) (Ail x.s x.rest a)⟩
theorem yK(GG:List (FuncId×(FD)))(LL:List LoopC)(II:List (FuncId×(List Value->St->Option (Bool×Value×St))))(R:St->OD)(K:X->St->OD)(q:Nat)(s hd rest w1 w2 w3 w4:ByteArray)(j k:Int):Ar (AU Tryz.prog fns GG LL [] II) 8 6 q (bst Jv [.s s,.s hd,.s rest,.s w1,.s w2,.s w3,.s w4,.i j,.i k]) (BI [0,2,4,5,7,25,26] (some [0,2,3,5,7]) R K)=br (j<4) (br (0<=j&&j<(↑4:Int)) (br (j=(↑0:Int)) (br ((↑({data:= #[100,111,99,117,109,101,110,116,32]:ByteArray}.size+w1.size):Int)>IntKind.i64.max) none (br (hd.toList==({data:={toList:=[100,111,99,117,109,101,110,116,32]:Array UInt8}:ByteArray}++w1).toList) (R (bst Jv [.s s,.s hd,.s rest,.s w1,.s w2,.s w3,.s w4,.i (IntKind.i64.wrap (j+1)),.i (IntKind.u8.wrap (IntKind.i64.wrap (j+1)))])) (R (bst Jv [.s s,.s hd,.s rest,.s w1,.s w2,.s w3,.s w4,.i (IntKind.i64.wrap (j+1)),.i k])))) (br (j=(↑1:Int)) (br ((↑({data:= #[100,111,99,117,109,101,110,116,32]:ByteArray}.size+w2.size):Int)>IntKind.i64.max) none (br (hd.toList==({data:={toList:=[100,111,99,117,109,101,110,116,32]:Array UInt8}:ByteArray}++w2).toList) (R (bst Jv [.s s,.s hd,.s rest,.s w1,.s w2,.s w3,.s w4,.i (IntKind.i64.wrap (j+1)),.i (IntKind.u8.wrap (IntKind.i64.wrap (j+1)))])) (R (bst Jv [.s s,.s hd,.s rest,.s w1,.s w2,.s w3,.s w4,.i (IntKind.i64.wrap (j+1)),.i k])))) (br (j=(↑2:Int)) (br ((↑({data:= #[100,111,99,117,109,101,110,116,32]:ByteArray}.size+w3.size):Int)>IntKind.i64.max) none (br (hd.toList==({data:={toList:=[100,111,99,117,109,101,110,116,32]:Array UInt8}:ByteArray}++w3).toList) (R (bst Jv [.s s,.s hd,.s rest,.s w1,.s w2,.s w3,.s w4,.i (IntKind.i64.wrap (j+1)),.i (IntKind.u8.wrap (IntKind.i64.wrap (j+1)))])) (R (bst Jv [.s s,.s hd,.s rest,.s w1,.s w2,.s w3,.s w4,.i (IntKind.i64.wrap (j+1)),.i k])))) (br (j=(↑(0+1+1+1):Int)) (br ((↑({data:= #[100,111,99,117,109,101,110,116,32]:ByteArray}.size+w4.size):Int)>IntKind.i64.max) none (br (hd.toList==({data:={toList:=[100,111,99,117,109,101,110,116,32]:Array UInt8}:ByteArray}++w4).toList) (R (bst Jv [.s s,.s hd,.s rest,.s w1,.s w2,.s w3,.s w4,.i (IntKind.i64.wrap (j+1)),.i (IntKind.u8.wrap (IntKind.i64.wrap (j+1)))])) (R (bst Jv [.s s,.s hd,.s rest,.s w1,.s w2,.s w3,.s w4,.i (IntKind.i64.wrap (j+1)),.i k])))) none)))) none) (K (.exit 0) (Ail s rest k)):=by kernel_rfl
theorem Agp(GG:List (FuncId×(FD)))(LL:List LoopC)(II:List (FuncId×(List Value->St->Option (Bool×Value×St)))):Ai (AU Tryz.prog fns GG LL [] II) lpk.C:=lpk.ok (fun x j a=>True) (by kernel_rfl)
 (fun its x h hc=>by
  replace h:fO its=some x:=h;unfold fO at h;split at h
  ·cases h;obtain⟨h1,h2,h3,h4,h5⟩:=c_lpk_iff.1 hc;dsimp only at h1 h2 h3 h4 h5;subst h1 h2 h3 h4 h5;rfl
  ·cases h)
 (fun x hc=>by have:=c_lpk_iff.1 hc;show 4<18446744073709551616;omega)
 (fun x hc=>by
  trivial)
 (fun x j a hc hi hI=>by
  trivial)
 (fun q ⟨s,hd,rest,w1,w2,w3,w4,j0,k0⟩ j a hc hi hI R K=>by
  obtain⟨h1,h2,h3,h4,h5⟩:=c_lpk_iff.1 hc;dsimp only at*
  replace hi:j<4:=hi;refine(yK GG LL II R K q s hd rest w1 w2 w3 w4 ((j:Int)) ((a))).trans ?_;have hj:j=0∨j=1∨j=2∨j=3:=by omega
  subst h2 h3 h4 h5;rcases hj with rfl|rfl|rfl|rfl
  ·show br (hd.toList==(Ej 0).toList) (R _) (R _)=R (bst lpk.p (lpk.S _ (0+1) (bif hd.toList==(Ej 0).toList then((0:Nat):Int)+1 else a)));cases hd.toList==(Ej 0).toList<;>rfl
  ·show br (hd.toList==(Ej 1).toList) (R _) (R _)=R (bst lpk.p (lpk.S _ (1+1) (bif hd.toList==(Ej 1).toList then((1:Nat):Int)+1 else a)));cases hd.toList==(Ej 1).toList<;>rfl
  ·show br (hd.toList==(Ej 2).toList) (R _) (R _)=R (bst lpk.p (lpk.S _ (2+1) (bif hd.toList==(Ej 2).toList then((2:Nat):Int)+1 else a)));cases hd.toList==(Ej 2).toList<;>rfl
  ·show br (hd.toList==(Ej 3).toList) (R _) (R _)=R (bst lpk.p (lpk.S _ (3+1) (bif hd.toList==(Ej 3).toList then((3:Nat):Int)+1 else a)));cases hd.toList==(Ej 3).toList<;>rfl)
 (fun q ⟨s,hd,rest,w1,w2,w3,w4,j0,k0⟩ a hc hI R K=>by
  obtain⟨h1,h2,h3,h4,h5⟩:=c_lpk_iff.1 hc;dsimp only at*
  refine(yK GG LL II R K q s hd rest w1 w2 w3 w4 (((4:Nat):Int)) ((a))).trans ?_;rfl)
end Go.Proofs.YtnljjjghpgdmoaaGreatDoor

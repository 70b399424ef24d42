/- A part of the proof of PrintTexts. No conditions. -/
import Derived.Test.YtnljjjghpgdmoaaGreatDoorXal
set_option linter.all false
namespace Go.Proofs.YtnljjjghpgdmoaaGreatDoor
open Go.Ev Go.Lib Go.RowKit
def qN(v:World):(Instr.index 73 (.agg #[.string sCake,.string sGoods,.string sRent,.string sSettle]) (.int .u8 (IntKind.u8.wrap 2))).run Tryz.prog v=.ok (.string sRent) v:=k_
def sRooms:Y_:=⟨⟨[114,111,111,109,115]⟩⟩
def sPrices:Y_:=⟨⟨[112,114,105,99,101,115]⟩⟩
structure RentF(w2:World)(b:Nat)(ga ra qa:Option Addr)(gn gc gb goff rn rc rb ro qn qc qb qo:Nat)(xa:Nat->Option Addr)(xb xo xn xc:Nat->Nat)(X:Nat->Nat->Int)(R Q:Nat->Int)(rr ld:Int):Prop where
 hga:0<gn->ga=some ⟨gb,goff,none⟩∧gb<b
 hg:∀e,e<gn->w2.cell? ⟨gb,goff+e,none⟩=some (.slice (xa e) (xn e) (xc e))
 hx:∀e,e<gn->xn e<=1000∧(0<xn e->xa e=some ⟨xb e,xo e,none⟩∧xb e<b)∧∀j,j<xn e->w2.cell? ⟨xb e,xo e+j,none⟩=some (.int .i64 (X e j))
 hra:0<rn->ra=some ⟨rb,ro,none⟩∧rb<b
 hr:∀j,j<rn->w2.cell? ⟨rb,ro+j,none⟩=some (.int .i64 (R j))
 hqa:qa=some ⟨qb,qo,none⟩∧qb<b∧0<qn
 hq:∀j,j<qn->w2.cell? ⟨qb,qo+j,none⟩=some (.int .i64 (Q j))
 hX:∀e j,iR (X e j)=true
 hR:∀j,iR (R j)=true
 hQ:∀j,iR (Q j)=true
 hrr:iR rr=true
 hld:iR ld=true
 hgn:gn<=1000
 hrn:rn<=1000
 hqn:qn<=1000
def RentF.later{w w2:World}{n b:Nat}{ga ra qa:Option Addr}{gn gc gb goff rn rc rb ro qn qc qb qo:Nat}{xa:Nat->Option Addr}{xb xo xn xc:Nat->Nat}{X:Nat->Nat->Int}{R Q:Nat->Int}{rr ld:Int}(h:RentF w n ga ra qa gn gc gb goff rn rc rb ro qn qc qb qo xa xb xo xn xc X R Q rr ld)(hb:Below n w w2)(hn:n<=b):RentF w2 b ga ra qa gn gc gb goff rn rc rb ro qn qc qb qo xa xb xo xn xc X R Q rr ld where
 hga:=fun h0=>⟨(h.hga h0).1,Nat.lt_of_lt_of_le (h.hga h0).2 hn⟩
 hg:=fun e he=>by rw[hb.cell (p:=⟨gb,goff+e,none⟩) (h.hga o_).2];exact h.hg e he
 hx:=fun e he=>by
  obtain⟨a1,a2,a3⟩:=h.hx e he;exact⟨a1,fun h0=>⟨(a2 h0).1,Nat.lt_of_lt_of_le (a2 h0).2 hn⟩,fun j hj=>by rw[hb.cell (p:=⟨xb e,xo e+j,none⟩) (a2 o_).2];exact a3 j hj⟩
 hra:=fun h0=>⟨(h.hra h0).1,Nat.lt_of_lt_of_le (h.hra h0).2 hn⟩
 hr:=fun j hj=>by rw[hb.cell (p:=⟨rb,ro+j,none⟩) (h.hra o_).2];exact h.hr j hj
 hqa:=⟨h.hqa.1,Nat.lt_of_lt_of_le h.hqa.2.1 hn,h.hqa.2.2⟩
 hq:=fun j hj=>by rw[hb.cell (p:=⟨qb,qo+j,none⟩) h.hqa.2.1];exact h.hq j hj
 hX:=h.hX
 hR:=h.hR
 hQ:=h.hQ
 hrr:=h.hrr
 hld:=h.hld
 hgn:=h.hgn
 hrn:=h.hrn
 hqn:=h.hqn
def bG(ld:Int)(Q:Nat->Int)(j:Nat):Int:=if j=0 then ld else Q (j-1)
def yB(rr:Int)(X:Nat->Nat->Int)(xn:Nat->Nat)(gn:Nat)(R:Nat->Int)(rn:Nat)(ld:Int)(Q:Nat->Int)(qn:Nat)(c:Int):List UInt8:=FM sRent++(Ad sRent++BI (fun _=>rr) 1++[10])++EI sValues X xn gn++(Ad sRooms++BI R rn++[10])++(Ad sPrices++BI (bG ld Q) (1+qn)++[10])++Q8 c
def uP{ld:Int}{Q:Nat->Int}(h1:iR ld=true)(h2:∀j,iR (Q j)=true)(j:Nat):iR (bG ld Q j)=true:=by
 unfold bG;split
 ·exact h1
 ·exact h2 _
def aH{w7:World}{base g cap qn:Nat}{x:Int}{Q:Nat->Int}(hown:w7.ownsRow base 3 1 (.slice (some ⟨g,0,none⟩) (1+qn) cap) (1+qn) ([Value.int .i64 x]++(List.range qn).map (fun i=>Value.int .i64 (Q i)))){b:Nat}(hgb:g≠b):
  ∀w',Below b w7 w'->Lib.OthersKept 5 (some b) w7 w'->∀j,j<1+qn->w'.cell? ⟨g,0+j,none⟩=some (.int .i64 (bG x Q j)):=by
 intro w' h1 h2 j hj;have h3:=Oz (w7:=w7) (base:=base) (g:=g) (cap:=cap) (un:=qn) (dn:=0) (x:=x) (U:=Q) (Dv:=Q) (by simpa using hown) hgb w' h1 h2 j o_;rw[h3];unfold J4 bG;by_cases h0:j=0
 ·rw[AM h0,AM h0]
 ·rw[AL h0,AL h0,AM o_]
set_option maxHeartbeats 4000000 in
set_option maxRecDepth 1000000 in
def Xe(w:World)(c1 c2 c4 c5 c6 c12 c13:Value)(pc rr ld cl:Int)(ga ra qa:Option Addr)(gn gc gb goff rn rc rb ro qn qc qb qo:Nat)(xa:Nat->Option Addr)(xb xo xn xc:Nat->Nat)(X:Nat->Nat->Int)(R Q:Nat->Int)(ec:Int)
  (hchk:∀w',Below w.heap.size w w'->Calls Tryz.prog 10 #[.agg #[.int .u8 3,c1,c2,.int .u8 pc,c4,c5,c6,.slice ga gn gc,.int .i64 rr,.slice ra rn rc,.slice qa qn qc,.int .i64 ld,c12,c13,.int .u8 cl]] w' fun e w''=>e=.returned (.int .i64 ec)∧Below w'.heap.size w' w'')
  (hWd:∀w',Below w.heap.size w w'->Wd w') (hF:ec=0->RentF w w.heap.size ga ra qa gn gc gb goff rn rc rb ro qn qc qb qo xa xb xo xn xc X R Q rr ld) (hc:ec=0->0<=pc∧pc<=255∧0<=cl∧cl<=255):
  Calls Tryz.prog 6 #[.agg #[.int .u8 3,c1,c2,.int .u8 pc,c4,c5,c6,.slice ga gn gc,.int .i64 rr,.slice ra rn rc,.slice qa qn qc,.int .i64 ld,c12,c13,.int .u8 cl]] w fun e w'=>e=.returned (.tuple #[.string (JJ ec (yB rr X xn gn R rn ld Q qn (cl+pc))),.int .i64 (JG ec (yB rr X xn gn R rn ld Q qn (cl+pc)))])∧Below w.heap.size w w':=by
 have mx:Tryz.prog.follows .mixedOrders=true:=mixed
 go_enter Tryz.func6,Tryz.ntmps6
 go_wp2_with (first|(go_at_call 10;refine(hchk _ ?_).mono ?_))
 ·exact(Below.refl _ w).alloc (AC _) _
 rintro e w1 ⟨rfl,hb1⟩;by_cases hec:ec=0
 rotate_left
 ·have hec2:(ec !=0)=true:=by simpa using hec
  go_wp2
  go_ret2
  unfold JJ JG;rw[hec2];exact⟨rfl,((Below.refl _ w).alloc (AC _) _).trans (hb1.mono y_)⟩
 ·have hF1:=hF hec;obtain⟨p0,p1,q0,q1⟩:=hc hec;subst hec;clear hF hc
  go_wp2
  have hb0:Below w.heap.size w w1:=((Below.refl _ w).alloc (AC _) _).trans (hb1.mono (Nat.le_of_lt (Bq w _)));have hN:w.heap.size<w1.heap.size:=Nat.lt_of_lt_of_le (Bq w _) hb1.size;have hbox:w1.heap[w.heap.size]? =some (.cells #[.int .u8 3,c1,c2,.int .u8 pc,c4,c5,c6,.slice ga gn gc,.int .i64 rr,.slice ra rn rc,.slice qa qn qc,.int .i64 ld,c12,c13,.int .u8 cl] 39 (0,0)):=by
   rw[hb1.block w.heap.size (Bq w _)];exact Cj w _
  obtain⟨w2,hw2⟩:∃w2,w2=w1.alloc (.cells #[.pointer none,.slice none 0 0] 68):=⟨_,rfl⟩;have hI0:WrI w2 w1.heap.size [] w2:=⟨Below.refl _ _,Lib.OthersKept.refl _ _ _,by rw[hw2];exact Lib.IsBuilderF.of (Lib.fresh_isBuilder 68 5 w1)⟩;have hb3:w1.heap.size<w2.heap.size:=by rw[hw2];exact Bq w1 _
  have hb2:w1.heap.size<=w2.heap.size:=by rw[hw2];exact Nat.le_of_lt (Bq w1 _)
  have hbel2:∀k,k<w1.heap.size->w2.heap[k]? =w1.heap[k]? :=fun k hk=>by rw[hw2];exact Below.heap_alloc w1 _ k hk
  have hbox2:∀v,Below w1.heap.size w2 v->v.heap[w.heap.size]? =some (.cells #[.int .u8 3,c1,c2,.int .u8 pc,c4,c5,c6,.slice ga gn gc,.int .i64 rr,.slice ra rn rc,.slice qa qn qc,.int .i64 ld,c12,c13,.int .u8 cl] 39 (0,0)):=fun v hv=>by
   rw[hv.block _ hN,hbel2 _ hN];exact hbox
  have hbv:∀v,Below w1.heap.size w2 v->Below w.heap.size w v:=fun v hv=>hb0.trans (((Below.refl _ w1).alloc (AC _) _).trans (hw2▸hv)|>.mono o_);have hW2:∀v,Below w1.heap.size w2 v->Wd v:=fun v hv=>hWd v (hbv v hv);rw[<-hw2];clear hw2 hbel2;generalize hbb:w1.heap.size=b at*
  obtain⟨Cq,hq1,hq2⟩:∃Cq:World->Prop,(∀v,Cq v->WrI w2 b [] v)∧∀v,WrI w2 b [] v->Cq v:=⟨fun v=>WrI w2 b [] v,fun _ h=>h,fun _ h=>h⟩;refine BB (C:=Cq) 10 mx k_ (hq2 w2.drew hI0.drew) ?_;have hq:=hid hq1;have hcall:∀v,Cq v->Calls Tryz.prog 20 #[] v fun e w'=>e=.returned (.agg #[.string sCake,.string sGoods,.string sRent,.string sSettle])∧Cq w':=fun v hv=>(Oe (hq1 v hv) hb2).mono fun e w' ⟨he,h⟩=>⟨he,hq2 _ h⟩;have hcl:=hid hcall;have hld:Hid (∀v,Cq v->v.cell? ⟨w.heap.size,0,none⟩=some (.int .u8 3)):=fun v hv=>by rw[Lib.cell_of_heap (hbox2 v (hq1 v hv).bel)];rfl
  have hFh:=hid hF1;clear hq1 hq2 hcall hchk hF1;dsimp only[List.take,List.drop];refine wpQuiet_step (fun K hK=>?_)
  go_simp
  refine⟨_,fun v hv=>rfl,hK _ ?_⟩;clear hK K;refine wpQuiet_step (fun K hK=>?_)
  go_simp
  refine⟨_,fun v hv=>rfl,hK _ ?_⟩;clear hK K;refine wpQuiet_step (fun K hK=>?_)
  go_simp
  refine⟨_,fun v hv=>rfl,hK _ ?_⟩;clear hK K;refine wpQuiet_step (fun K hK=>?_)
  go_simp
  refine⟨.agg #[.string sCake,.string sGoods,.string sRent,.string sSettle],fun v hv=>hcl.un v hv,hK _ ?_⟩;clear hK K;refine wpQuiet_step (fun K hK=>?_)
  go_simp
  refine⟨_,fun v hv=>rfl,hK _ ?_⟩;clear hK K;refine wpQuiet_step (fun K hK=>?_)
  go_simp
  refine⟨.int .u8 3,fun v hv=>?_,hK _ ?_⟩
  ·rw[hld.un v hv];exact⟨rfl,rfl⟩
  clear hK K;refine wpQuiet_step (fun K hK=>?_)
  go_simp
  refine⟨_,fun v hv=>rfl,hK _ ?_⟩;clear hK K;refine wpQuiet_step (fun K hK=>?_)
  go_simp
  refine⟨.string sRent,fun v hv=>?_,hK _ ?_⟩
  ·rw[qN v];exact⟨rfl,rfl⟩
  clear hK K;refine wpQuiet_step (fun K hK=>?_)
  go_simp
  refine⟨.string (sDocument++sRent),fun v hv=>?_,hK _ ?_⟩
  ·rw[AL (show¬9223372036854775807<9+sRent.size by have:sRent.size=4:=rfl;omega)];exact⟨rfl,rfl⟩
  clear hK K;refine wpQuiet_step (fun K hK=>?_)
  go_simp
  refine⟨.string (sDocument++sRent++⟨#[10]⟩),fun v hv=>?_,hK _ ?_⟩
  ·rw[AL (show¬9223372036854775807<sDocument.size+sRent.size+1 by have:sRent.size=4:=rfl;have:sDocument.size=9:=rfl;omega)];exact⟨rfl,rfl⟩
  clear hK K;refine wpQuiet_nil ?_;intro w3 h3;have h3':WrI w2 b [] w3:=hq.un w3 h3;have hsz:([]:List UInt8).length+(sDocument++sRent++⟨#[10]⟩).size<=140737488355328:=d_;have hS:[]++Ad (sDocument++sRent++⟨#[10]⟩)=FM sRent:=by rw[Ei,Ei];rfl
  generalize sDocument++sRent++⟨#[10]⟩=Sx at*
  clear hq hcl hld h3
  go_wp2_with (first|(go_at_call 19;refine(Oa h3' hb2 Sx hsz).mono ?_))
  rintro e w4 ⟨rfl,h4⟩;rw[hS]at h4;clear hS hsz h3';have hh2:=hid hbox2;obtain⟨q1,q2,q3,q4,q5,q6,q7,q8,q9,q10,q11,q12,q13,q14,q15⟩:=hFh.un.later (hbv w2 (Below.refl _ _)) (show w.heap.size<=b by omega);have hb4:=hbox2 w4 h4.bel;have g0:w4.cell? ⟨w.heap.size,0,none⟩=some (.int .u8 3):=by rw[Lib.cell_of_heap hb4];rfl
  have g8:w4.cell? ⟨w.heap.size,8,none⟩=some (.int .i64 rr):=by rw[Lib.cell_of_heap hb4];rfl
  have hbx:Hid (∀v L,WrI w2 b L v->v.cell? ⟨w.heap.size,14,none⟩=some (.int .u8 cl)∧v.cell? ⟨w.heap.size,3,none⟩=some (.int .u8 pc)):=fun v L hv=>by
   rw[Lib.cell_of_heap (hbox2 v hv.bel),Lib.cell_of_heap (hbox2 v hv.bel)];exact⟨rfl,rfl⟩
  have hby:Hid (∀v L,WrI w2 b L v->v.cell? ⟨w.heap.size,7,none⟩=some (.slice ga gn gc)∧v.cell? ⟨w.heap.size,9,none⟩=some (.slice ra rn rc)∧v.cell? ⟨w.heap.size,10,none⟩=some (.slice qa qn qc)∧v.cell? ⟨w.heap.size,11,none⟩=some (.int .i64 ld)):=fun v L hv=>by
   rw[Lib.cell_of_heap (hbox2 v hv.bel),Lib.cell_of_heap (hbox2 v hv.bel),Lib.cell_of_heap (hbox2 v hv.bel),Lib.cell_of_heap (hbox2 v hv.bel)];exact⟨rfl,rfl,rfl,rfl⟩
  have q1h:=hid q1;have q2h:=hid q2;have q3h:=hid q3;have q4h:=hid q4;have q5h:=hid q5;have q6h:=hid q6;have q7h:=hid q7;obtain⟨L5,hL5⟩:∃L5,Hid (L5=FM sRent++Ad sRent++BI (fun _=>rr) 1++[10]):=⟨FM sRent++Ad sRent++BI (fun _=>rr) 1++[10],Eq.refl _⟩;have hl5:Hid (L5.length<=1000):=by
   show _<=_;have h1:=FB (x:=fun _=>rr) (fun _=>q11) 1;have h2:(FM sRent).length<=100:=d_;have h3:(Ad sRent).length=4:=rfl;rw[show L5=_ from hL5,AG,AG,AG,List.length_singleton];omega
  have hone:∀j,j<1->(#[Value.int .i64 rr]:Array Value)[j]? =some (.int .i64 ((fun _:Nat=>rr) j)):=fun j hj=>by
   have:j=0:=o_;subst this;rfl
  have hct:=GU (h4.alloc hb2 (.cells #[.int .i64 rr] 3)) hW2 hb2 sRent w4.heap.size 1 1 (fun _=>rr) #[.int .i64 rr] (0,0) (fun _=>q11) (by have:=h4.bel.size;omega) (Cj w4 _) hone d_;rw[<-show L5=_ from hL5]at hct;clear hb4 hbox hb1 hFh hI0 h4 hbox2 hone q1 q2 q3 q4 q5 q6 q7
  go_wp2_with (first|(go_at_call 22;refine hct.mono ?_))
  rintro e w5 ⟨rfl,h5⟩;clear hct g0 g8;obtain⟨g7,-⟩:=hby.un w5 _ h5;have h5h:=hid h5;clear h5
  go_wp2
  clear g7;have hT:Hid (∀k,k<=gn->(L5++EI sValues X xn k).length<=40000000):=fun k hk=>by
   have h1:=Ig (word:=sValues) d_ q8 k (fun e he=>(q3h.un e o_).1);have h2:L5.length<=1000:=hl5;have h3:k*30000<=1000*30000:=AH _ o_;rw[AG];omega
  go_loopw [67] (fun i wr=>∃k:Nat,i=.int .i64 k∧k<=gn∧WrI w2 b (L5++EI sValues X xn k) wr) (fun i _=>gn-(RowKit.intOf i).toNat)
  case atStart=>
   refine⟨0,rfl,Nat.zero_le _,?_⟩;rw[show L5++EI sValues X xn 0=L5 from List.append_nil _];exact h5h
  case round=>
   obtain⟨k,rfl,hk,h6⟩:=hrel;by_cases hp:k<gn
   ·obtain⟨ha',hgb'⟩:=q1h.un o_;subst ha';have d0:=q2h.un k hp;rw[<-h6.bel.cell (p:=⟨gb,goff+k,none⟩) hgb']at d0;obtain⟨u1,u2,u3⟩:=q3h.un k hp;have hct:=IU h6 hW2 hb2 sValues (xa k) (xb k) (xo k) (xn k) (xc k) (X k) (fun h=>(u2 h).1) (q8 k) (fun h=>(u2 h).2) u3 (by
     have h1:=hT.un k o_;have h3:sValues.size=6:=rfl;omega)
    have hct2:Calls Tryz.prog 22 #[.pointer (some ⟨b,0,none⟩),.string sValues,.slice (xa k) (xn k) (xc k)] wr fun e w'=>e=.returned (.tuple #[])∧WrI w2 b (L5++EI sValues X xn (k+1)) w':=hct.mono fun e w' ⟨h1,h2⟩=>⟨h1,by
     rw[show L5++EI sValues X xn (k+1)=L5++EI sValues X xn k++Ad sValues++BI (X k) (xn k)++[10] by rw[show EI sValues X xn (k+1)=EI sValues X xn k++(Ad sValues++BI (X k) (xn k)++[10])from rfl];simp only[List.append_assoc]];exact h2⟩
    clear hct u2 u3 h6 hT
    go_wp2_with (first|(go_at_call 22;refine hct2.mono ?_;rintro e w6 ⟨rfl,h6⟩))
    go_roundw
    case rel=>exact⟨k+1,by go_num,o_,h6⟩
    case measure=>simp[RowKit.intOf];omega
   ·have hkn:k=gn:=o_;subst hkn;obtain⟨-,g9,-,-⟩:=hby.un wr _ h6;obtain⟨L7,hL7⟩:∃L7,Hid (L7=L5++EI sValues X xn k++Ad sRooms++BI R rn++[10]):=⟨L5++EI sValues X xn k++Ad sRooms++BI R rn++[10],Eq.refl _⟩;have hl6:=hT.un k (AC _);have hl7:Hid (L7.length<=50000000):=by
     show _<=_;have h1:=FB q9 rn;have h3:(Ad sRooms).length=5:=rfl;rw[show L7=_ from hL7,AG,AG,AG,List.length_singleton];omega
    have hct:=IU h6 hW2 hb2 sRooms ra rb ro rn rc R (fun h=>(q4h.un h).1) q9 (fun h=>(q4h.un h).2) q5h (by
     have h3:sRooms.size=5:=rfl;omega)
    rw[<-show L7=_ from hL7]at hct;clear h6 hT hl6
    go_wp2_with (first|(go_at_call 22;refine hct.mono ?_))
    rintro e w7 ⟨rfl,h7⟩;clear hct g9;obtain⟨-,-,g10,g11⟩:=hby.un w7 _ h7;obtain⟨t1,t2,t3⟩:=q6h.un;subst t1;obtain⟨i0,hi,hz0,hz1,hz2⟩:=info_parts lW;have hbz:b<w7.heap.size:=by have:=h7.bel.size;omega
    have hnu:Hid (∀v,Below b w2 v->∀j u,((List.range qn).map (fun i=>Value.int .i64 (Q i)))[j]? =some u->v.cell? ((⟨qb,qo,none⟩:Addr).add j)=some u):=fun v hv=>RS hv t2 q7h;obtain⟨s5,hs5⟩:∃s5,s5=w7.heap.size:=⟨_,rfl⟩;have hs5h:=hid hs5;have h7h:=hid h7;have hbw:Hid (Below b w2 w7):=h7.bel;have hN5:w.heap.size<s5:=o_;have hb5:b<s5:=o_;have hbz:b<=s5:=o_;have hhx:Hid (∀v,Below b w2 v->v.cell? ⟨w.heap.size,10,none⟩=some (.slice (some ⟨qb,qo,none⟩) qn qc)∧v.cell? ⟨w.heap.size,11,none⟩=some (.int .i64 ld)):=fun v hv=>by
     have hh3:=hh2.un v hv;rw[Lib.cell_of_heap hh3,Lib.cell_of_heap hh3];exact⟨rfl,rfl⟩
    have hq2:1+qn<=100000:=o_;have g10':=(hhx.un (w7.alloc (.cells #[.int .i64 ld] 3)) (h7.bel.alloc o_ _)).1;clear h7 hs5 g10
    go_wp2_with (at_builtin;refine wpList_append_lies _ (by rfl) _ _ 32 (by rfl) w7.heap.size 3 i0 _ 1 8 Tryz.underlying32 hi hz0 hz1 hz2 rfl o_ (.slice (some ⟨w7.heap.size,0,none⟩) 1 1) 1 [.int .i64 ld] (by rfl) (Yj w7 ld w7.heap.size rfl) ⟨qb,qo,none⟩ qn qc ((List.range qn).map (fun i=>Value.int .i64 (Q i))) (by rfl) y_ (hnu.un _ (hbw.un.alloc o_ _)) (Pz _ _) t3 (by unfold maxLen;omega) o_ y_ (w7.heap.size+1) y_ ?_;intro g6 cap6 w8 hown6 hgrow hat6 hlt6)
    have hb8:Below w7.heap.size w7 w8:=((Below.refl w7.heap.size w7).alloc (AC _) _).grown hgrow y_ (fun j hj=>by cases hj;exact AC _);have hg8:g6≠b:=by
     rcases hat6 with e|e
     ·have e:w7.heap.size=g6:=Option.some.inj e;omega
     ·omega
    have h8:WrI w2 b L7 w8:=h7h.un.step hb2 (hb8.mono o_);obtain⟨LL,hLL⟩:∃LL,Hid (LL=L7++Ad sPrices++BI (bG ld Q) (1+qn)++[10]):=⟨L7++Ad sPrices++BI (bG ld Q) (1+qn)++[10],Eq.refl _⟩;have hlL:Hid (LL.length<=400000000):=by
     show _<=_;have h1:=FB (uP q12 q10) (1+qn);have h2:L7.length<=50000000:=hl7;have h3:(Ad sPrices).length=6:=rfl;rw[show LL=_ from hLL,AG,AG,AG,List.length_singleton];omega
    have hct:=kN h8 hW2 hb2 sPrices (some ⟨g6,0,none⟩) g6 0 (1+qn) cap6 (bG ld Q) (fun _=>rfl) (uP q12 q10) (aH hown6 hg8) (by
     have h2:L7.length<=50000000:=hl7;have h3:sPrices.size=6:=rfl;omega)
    rw[<-show LL=_ from hLL]at hct;clear h8 hown6 hgrow hat6 hlt6 h7h hb8 hg8 g10' g11
    go_wp2_with (first|(go_at_call 22;refine hct.mono ?_))
    rintro e wx ⟨rfl,hx,-⟩;clear hct;have i1:∀j:Nat,iR ((fun _:Nat=>cl+pc) j)=true:=fun j=>iR_iff.2 ⟨by dsimp only;omega,by dsimp only;omega⟩;have i2:Hid (∀j,j<1->(#[Value.int .i64 (cl+pc)]:Array Value)[j]? =some (.int .i64 ((fun _:Nat=>cl+pc) j))):=fun j hj=>by
     have:j=0:=o_;subst this;rfl
    have i3':LL.length+sClaims.size+1*22<=1000000000000:=by
     have h1:LL.length<=400000000:=hlL;have h3:sClaims.size=6:=rfl;omega
    have hT2:Hid (LL++Ad sClaims++BI (fun _=>cl+pc) 1++[10]=yB rr X xn k R rn ld Q qn (cl+pc)):=by
     show _=_;rw[show LL=_ from hLL,show L7=_ from hL7,show L5=_ from hL5,yB];simp only[Q8,List.append_assoc]
    have f0:=hid hb3;clear hb3;obtain⟨f14,f3⟩:=hbx.un wx _ hx;have i4:wx.heap.size≠b:=by have:=hx.bel.size;have h:b<w2.heap.size:=f0;omega
    have hxa:=hx.alloc hb2 (.cells #[.int .i64 (cl+pc)] 3);have hxn:Hid ((wx.alloc (.cells #[.int .i64 (cl+pc)] 3)).heap[wx.heap.size]? =some (.cells #[.int .i64 (cl+pc)] 3 (0,0))):=Cj wx _
    go_wp2_with (first|(go_at_call 22;refine(GU hxa hW2 hb2 sClaims wx.heap.size 1 1 (fun _=>cl+pc) #[.int .i64 (cl+pc)] (0,0) i1 i4 hxn i2 i3').mono ?_))
    rintro e wz ⟨rfl,hz⟩;obtain⟨T,hT⟩:∃T,T=LL++Ad sClaims++BI (fun _=>cl+pc) 1++[10]:=⟨_,rfl⟩;rw[<-hT]at hz;have hT3:Hid (yB rr X xn k R rn ld Q qn (cl+pc)=T):=by
     show _=_;rw[hT];exact hT2.un.symm
    have hne:T≠[]:=by rw[hT];simp
    have hbz:Below w.heap.size w wz:=hbv wz hz.bel;clear hT hT2 f14 f3 hx hxa hxn i1 i2 i3' i4 hbx
    go_wp2_with (first|(go_at_call 23;refine(Si b b T _ hz.bld).mono ?_))
    rintro e wy ⟨rfl,rfl⟩;have hfin:Hid (∀v,Below b wy v->Below w.heap.size w v):=fun v hv=>hbz.trans (hv.mono o_);by_cases hbig:60000<T.length
    ·have hdb:decide (60000<T.length)=true:=A4 hbig;have hd2:=hid hdb;clear hdb
     go_wp2
     go_ret2
     rw[show yB rr X xn k R rn ld Q qn (cl+pc)=T from hT3];unfold JJ JG;rw[show decide (60000<T.length)=true from hd2];exact⟨rfl,hbz⟩
    ·have hd2:Hid (decide (60000<T.length)=false):=AB hbig
     go_wp2_with (first|(go_at_call 24;refine(NP b b T _ hz.bld hne).mono ?_))
     rintro e w9 ⟨rfl,h9⟩
     go_wp2
     go_ret2
     rw[show yB rr X xn k R rn ld Q qn (cl+pc)=T from hT3];unfold JJ JG;rw[show decide (60000<T.length)=false from hd2];exact⟨rfl,hfin.un w9 h9⟩
set_option maxRecDepth 100000
set_option maxHeartbeats 2000000 in
set_option maxRecDepth 1000000 in
def gG(w:World)(c0 c1 c2 c3 c4 c5 c6 c7 c8 c9 c10 c11 c12 c13 c14:Value)(ec:Int)(hec:ec≠0)
  (hchk:∀w',Below w.heap.size w w'->Calls Tryz.prog 10 #[.agg #[c0,c1,c2,c3,c4,c5,c6,c7,c8,c9,c10,c11,c12,c13,c14]] w' fun e w''=>e=.returned (.int .i64 ec)∧Below w'.heap.size w' w''):
  Calls Tryz.prog 6 #[.agg #[c0,c1,c2,c3,c4,c5,c6,c7,c8,c9,c10,c11,c12,c13,c14]] w fun e w'=>e=.returned (.tuple #[.string ⟨#[]⟩,.int .i64 ec])∧Below w.heap.size w w':=by
 go_enter Tryz.func6,Tryz.ntmps6
 go_wp2_with (first|(go_at_call 10;refine(hchk _ ?_).mono ?_))
 ·exact(Below.refl _ w).alloc (AC _) _
 rintro e w1 ⟨rfl,hb1⟩;have hec2:(ec !=0)=true:=by simpa using hec
 go_wp2
 go_ret2
 exact⟨rfl,((Below.refl _ w).alloc (AC _) _).trans (hb1.mono (Nat.le_of_lt (Bq w _)))⟩
def YS(r:Row)(e j:Nat):Int:=if e<r.n∧j<(r.R e 0).n then(r.R e 0).I j 0 else 0
def IL(r:Row)(j:Nat):Int:=if j<r.n then r.I j 0 else 0
def pOf(r:Row)(e i:Nat):Int:=if e<r.n∧i<3 then r.I e i else 0
def Zc:iR 0=true:=d_
def xO(r:Row)(c e j:Nat):Int:=if e<r.n∧j<(r.R e c).n then(r.R e c).I j 0 else 0
def qO(r:Row)(e j:Nat):Int×Int:=if e<r.n∧j<(r.R e 0).n then((r.R e 0).I j 0,(r.R e 0).I j 1)else(0,0)
def sO(r:Row)(e i c:Nat):Int:=if e<r.n∧i<(r.R e 0).n∧c<4 then(r.R e 0).I i c else 0
def gdT(x:Dc):List UInt8:=goT (YS x.gv) (fun e=>(x.gv.R e 0).n) x.gv.n (IL x.aa) x.aa.n (x.cl+x.pc)
def stT(x:Dc):List UInt8:=gW (IL x.ba) x.ba.n (pOf x.pa) x.pa.n (x.cl+x.pc)
def ckT(x:Dc):List UInt8:=xW x.ca.n x.pi.n x.wo.n (IL x.ca) (fun e=>(x.ca.R e 1).n) (fun e=>(x.ca.R e 2).n) (xO x.ca 1) (xO x.ca 2) (fun e=>(x.pi.R e 0).n) (fun e=>(x.wo.R e 0).n) (sO x.pi) (qO x.wo) (x.cl+x.pc)
def rnT(x:Dc):List UInt8:=yB x.rr (YS x.fv) (fun e=>(x.fv.R e 0).n) x.fv.n (IL x.lr) x.lr.n x.ld (IL x.lp) x.lp.n (x.cl+x.pc)
def GZ(x:Dc):List UInt8:=bif x.k==2 then gdT x else bif x.k==1 then ckT x else bif x.k==3 then rnT x else stT x
abbrev ClC(x:Dc):Prop:=0<=x.pc∧x.pc<=255∧0<=x.cl∧x.cl<=255
abbrev Af8(x:Dc):Prop:=x.k=2∧x.gv.n<=1000∧(∀e,e<x.gv.n->(x.gv.R e 0).n<=1000)∧(∀e,e<x.gv.n->∀j,j<(x.gv.R e 0).n->iR ((x.gv.R e 0).I j 0)=true)∧x.aa.n<=1000∧(∀j,j<x.aa.n->iR (x.aa.I j 0)=true)∧ClC x
abbrev Aei(x:Dc):Prop:=x.k=4∧x.ba.n<=1000∧(∀j,j<x.ba.n->iR (x.ba.I j 0)=true)∧x.pa.n<=1000∧(∀e,e<x.pa.n->∀i,i<3->iR (x.pa.I e i)=true)∧ClC x
abbrev Ar9(r:Row):Prop:=r.n<=1000∧(∀e,e<r.n->0<(r.R e 1).n∧0<(r.R e 2).n∧(r.R e 1).n+(r.R e 2).n<=900∧iR (r.I e 0)=true)∧(∀e,e<r.n->∀j,j<(r.R e 1).n->iR ((r.R e 1).I j 0)=true)∧(∀e,e<r.n->∀j,j<(r.R e 2).n->iR ((r.R e 2).I j 0)=true)
abbrev Apc(m:Nat)(r:Row):Prop:=r.n<=1000∧(∀e,e<r.n->(r.R e 0).n<=900)∧(∀e,e<r.n->∀j,j<(r.R e 0).n->∀c,c<m->Rt.iR ((r.R e 0).I j c)=true)
abbrev sN(x:Dc):Prop:=x.k=1∧Ar9 x.ca∧Apc 4 x.pi∧Apc 2 x.wo∧ClC x
abbrev mF(x:Dc):Prop:=x.k=3∧x.fv.n<=1000∧(∀e,e<x.fv.n->(x.fv.R e 0).n<=1000)∧(∀e,e<x.fv.n->∀j,j<(x.fv.R e 0).n->iR ((x.fv.R e 0).I j 0)=true)∧x.lr.n<=1000∧(∀j,j<x.lr.n->iR (x.lr.I j 0)=true)∧0<x.lp.n∧x.lp.n<=1000∧(∀j,j<x.lp.n->iR (x.lp.I j 0)=true)∧iR x.rr=true∧iR x.ld=true∧ClC x
def dC(x:Dc):Bool:=decide (Af8 x)||(decide (Aei x)||(decide (sN x)||decide (mF x)))
def Ftx(v:Ck):FD
 |[d]=>match Fe d with
  |some x=>some (ckC v x&&(ckE v x !=0||dC x),[.v (.string (JJ (ckE v x) (GZ x))),.v (i64 (JG (ckE v x) (GZ x)))])
  |none=>none
 |_=>none
def KF{mem:M_}{ρ:Ev.Map}{w:World}{r:Row}{e j m:Nat}{y:Value}{ks:List CK}(hk:ks=List.replicate m (.int .i64))(h:CellR (Ev.okB mem ρ w) w (.slice ks) r e j y):
  ∃a cap b off,y=.slice a (r.R e j).n cap∧(0<(r.R e j).n->a=some ⟨b,off,none⟩∧b<w.heap.size)∧∀i,i<(r.R e j).n->∀c,c<m->w.cell? ⟨b,off+i*m+c,none⟩=some (.int .i64 ((r.R e j).I i c)):=by
 subst hk;cases h with
 |@slice0 _ _ _ _ a cap h1=>exact⟨a,cap,0,0,by rw[h1],fun h=>o_,fun i hi=>o_⟩
 |@slice _ _ _ _ b off n cap h1 h2 h3 h4=>
  refine⟨_,cap,b,off,by rw[h1],fun _=>⟨rfl,h3.1⟩,fun i hi c hc=>?_⟩;cases h4 with
  |mk v g1 g2=>
   have hk:(List.replicate m (CK.int .i64))[c]? =some (.int .i64):=by rw[List.getElem?_replicate,AM hc]
   have:=g1 i c _ hi hk;rw[Ey (g2 i c _ hi hk)]at this;rw[<-this,List.length_replicate]
def rt0:Rt.iR 0=true:=d_
def iQ0:iQ (0,0)=true:=d_
set_option maxHeartbeats 1000000 in
def ZT{x:Dc}{ρ:Ev.Map}{B:Nat}{w:World}{y1 y2 y4:Value}(hm:MemR (Jv x) ρ B w)(h1:V ρ (Jv x).length (S_ 0 0 x.ca.n) y1)(h2:V ρ (Jv x).length (S_ 1 0 x.pi.n) y2)(h4:V ρ (Jv x).length (S_ 2 0 x.wo.n) y4)(hC:sN x):
  ∃ca pa wa cc pcp wcp cb co pb po wb wo ub uo uc db dO dc sa va sb so sc vb vo vc,y1=.slice ca x.ca.n cc∧y2=.slice pa x.pi.n pcp∧y4=.slice wa x.wo.n wcp∧
   CakeF w w.heap.size ca pa wa x.ca.n cc x.pi.n pcp x.wo.n wcp cb co pb po wb wo (IL x.ca) ub uo (fun e=>(x.ca.R e 1).n) uc db dO (fun e=>(x.ca.R e 2).n) dc (xO x.ca 1) (xO x.ca 2) sa va sb so (fun e=>(x.pi.R e 0).n) sc vb vo (fun e=>(x.wo.R e 0).n) vc (sO x.pi) (qO x.wo):=by
 obtain⟨-,⟨c1,c2,c3,c4⟩,⟨p1,p2,p3⟩,⟨o1,o2,o3⟩,-⟩:=hC;obtain⟨a1,n1,b1,f1,y1e,l1,v1,q1,r1⟩:=EF (ks:=ksC) (r:=x.ca) hm rfl h1;obtain⟨a2,n2,b2,f2,y2e,l2,v2,q2,r2⟩:=EF (ks:=ksP) (r:=x.pi) hm rfl h2;obtain⟨a4,n4,b4,f4,y4e,l4,v4,q4,r4⟩:=EF (ks:=ksW) (r:=x.wo) hm rfl h4;have hu:∀e:Nat,∃f:Option Addr×Nat×Nat×Nat,e<x.ca.n->v1 e 1=.slice f.1 (x.ca.R e 1).n f.2.1∧(0<(x.ca.R e 1).n->f.1=some ⟨f.2.2.1,f.2.2.2,none⟩∧f.2.2.1<w.heap.size)∧∀i,i<(x.ca.R e 1).n->∀c,c<1->w.cell? ⟨f.2.2.1,f.2.2.2+i*1+c,none⟩=some (.int .i64 ((x.ca.R e 1).I i c)):=fun e=>by
  by_cases he:e<x.ca.n
  ·obtain⟨a,cap,b,off,e1,e2,e3⟩:=KF (m:=1) rfl (r1 e 1 _ he rfl);exact⟨(a,cap,b,off),fun _=>⟨e1,e2,e3⟩⟩
  ·exact⟨(none,0,0,0),fun h=>absurd h he⟩
 have hd:∀e:Nat,∃f:Option Addr×Nat×Nat×Nat,e<x.ca.n->v1 e 2=.slice f.1 (x.ca.R e 2).n f.2.1∧(0<(x.ca.R e 2).n->f.1=some ⟨f.2.2.1,f.2.2.2,none⟩∧f.2.2.1<w.heap.size)∧∀i,i<(x.ca.R e 2).n->∀c,c<1->w.cell? ⟨f.2.2.1,f.2.2.2+i*1+c,none⟩=some (.int .i64 ((x.ca.R e 2).I i c)):=fun e=>by
  by_cases he:e<x.ca.n
  ·obtain⟨a,cap,b,off,e1,e2,e3⟩:=KF (m:=1) rfl (r1 e 2 _ he rfl);exact⟨(a,cap,b,off),fun _=>⟨e1,e2,e3⟩⟩
  ·exact⟨(none,0,0,0),fun h=>absurd h he⟩
 have hs:∀e:Nat,∃f:Option Addr×Nat×Nat×Nat,e<x.pi.n->v2 e 0=.slice f.1 (x.pi.R e 0).n f.2.1∧(0<(x.pi.R e 0).n->f.1=some ⟨f.2.2.1,f.2.2.2,none⟩∧f.2.2.1<w.heap.size)∧∀i,i<(x.pi.R e 0).n->∀c,c<4->w.cell? ⟨f.2.2.1,f.2.2.2+i*4+c,none⟩=some (.int .i64 ((x.pi.R e 0).I i c)):=fun e=>by
  by_cases he:e<x.pi.n
  ·obtain⟨a,cap,b,off,e1,e2,e3⟩:=KF (m:=4) rfl (r2 e 0 _ he rfl);exact⟨(a,cap,b,off),fun _=>⟨e1,e2,e3⟩⟩
  ·exact⟨(none,0,0,0),fun h=>absurd h he⟩
 have ho:∀e:Nat,∃f:Option Addr×Nat×Nat×Nat,e<x.wo.n->v4 e 0=.slice f.1 (x.wo.R e 0).n f.2.1∧(0<(x.wo.R e 0).n->f.1=some ⟨f.2.2.1,f.2.2.2,none⟩∧f.2.2.1<w.heap.size)∧∀i,i<(x.wo.R e 0).n->∀c,c<2->w.cell? ⟨f.2.2.1,f.2.2.2+i*2+c,none⟩=some (.int .i64 ((x.wo.R e 0).I i c)):=fun e=>by
  by_cases he:e<x.wo.n
  ·obtain⟨a,cap,b,off,e1,e2,e3⟩:=KF (m:=2) rfl (r4 e 0 _ he rfl);exact⟨(a,cap,b,off),fun _=>⟨e1,e2,e3⟩⟩
  ·exact⟨(none,0,0,0),fun h=>absurd h he⟩
 obtain⟨fu,hu⟩:=Classical.axiomOfChoice hu;obtain⟨fd,hd⟩:=Classical.axiomOfChoice hd;obtain⟨fs,hs⟩:=Classical.axiomOfChoice hs;obtain⟨fo,ho⟩:=Classical.axiomOfChoice ho;refine⟨a1,a2,a4,n1,n2,n4,b1,f1,b2,f2,b4,f4,fun e=>(fu e).2.2.1,fun e=>(fu e).2.2.2,fun e=>(fu e).2.1,fun e=>(fd e).2.2.1,fun e=>(fd e).2.2.2,fun e=>(fd e).2.1,fun e=>(fs e).1,fun e=>(fo e).1,fun e=>(fs e).2.2.1,fun e=>(fs e).2.2.2,fun e=>(fs e).2.1,fun e=>(fo e).2.2.1,fun e=>(fo e).2.2.2,fun e=>(fo e).2.1,y1e,y2e,y4e,?_⟩;exact{
  hca:=fun h=>(l1 h).1
  hcb:=fun h=>(l1 h).2
  hc:=fun e he=>by
   refine⟨?_,?_,?_⟩
   ·have:=q1 e 0 _ he (show ksC[0]? =some _ from rfl);rw[Ey (r1 e 0 _ he (show ksC[0]? =some _ from rfl))]at this;unfold IL;rw[AM he];exact this
   ·have:=q1 e 1 _ he (show ksC[1]? =some _ from rfl);rw[(hu e he).1]at this;rw[<-((hu e he).2.1 (c2 e he).1).1];exact this
   ·have:=q1 e 2 _ he (show ksC[2]? =some _ from rfl);rw[(hd e he).1]at this;rw[<-((hd e he).2.1 (c2 e he).2.1).1];exact this
  hu:=fun e he=>by
   obtain⟨z1,z2,z3,z4⟩:=c2 e he;refine⟨⟨z1,z3,((hu e he).2.1 z1).2,fun j hj=>?_⟩,z2,o_,((hd e he).2.1 z2).2,fun j hj=>?_⟩
   ·have:=(hu e he).2.2 j hj 0 o_;rw[Nat.mul_one,Nat.add_zero]at this;unfold xO;rw[AM ⟨he,hj⟩];exact this
   ·have:=(hd e he).2.2 j hj 0 o_;rw[Nat.mul_one,Nat.add_zero]at this;unfold xO;rw[AM ⟨he,hj⟩];exact this
  hr1:=fun e=>by
   unfold IL;split
   ·rename_i h;exact(c2 e h).2.2.2
   ·exact Zc
  hr2:=fun e j=>by
   unfold xO;split
   ·rename_i h;exact c3 e h.1 j h.2
   ·exact Zc
  hr3:=fun e j=>by
   unfold xO;split
   ·rename_i h;exact c4 e h.1 j h.2
   ·exact Zc
  hcn:=c1
  hpa:=l2
  hps:=fun e he=>by
   have:=q2 e 0 _ he (show ksP[0]? =some _ from rfl);rw[(hs e he).1]at this;rw[<-this];show w.cell? _=w.cell? ⟨b2,f2+e*1+0,none⟩;rw[Nat.mul_one,Nat.add_zero]
  hsa:=fun e he=>⟨p2 e he,(hs e he).2.1,fun i hi c hc=>by
   rw[(hs e he).2.2 i hi c hc];unfold sO;rw[AM ⟨he,hi,hc⟩]⟩
  hwa:=l4
  hws:=fun e he=>by
   have:=q4 e 0 _ he (show ksW[0]? =some _ from rfl);rw[(ho e he).1]at this;rw[<-this];show w.cell? _=w.cell? ⟨b4,f4+e*1+0,none⟩;rw[Nat.mul_one,Nat.add_zero]
  hva:=fun e he=>⟨o2 e he,(ho e he).2.1,fun j hj=>by
   have e0:=(ho e he).2.2 j hj 0 o_;have e1:=(ho e he).2.2 j hj 1 o_;unfold qO;rw[AM ⟨he,hj⟩];exact⟨e0,e1⟩⟩
  hr4:=fun e i c=>by
   unfold sO;split
   ·rename_i h;exact p3 e h.1 i h.2.1 c h.2.2
   ·exact rt0
  hr5:=fun e j=>by
   unfold qO;split
   ·rename_i h;show(Rt.iR _&&Rt.iR _)=true;rw[o3 e h.1 j h.2 0 o_,o3 e h.1 j h.2 1 o_];rfl
   ·exact iQ0
  hpn:=p1
  hwn:=o1}
set_option maxHeartbeats 1000000 in
def ZJ{x:Dc}{ρ:Ev.Map}{B:Nat}{w:World}{y1 y2 y4:Value}(hm:MemR (Jv x) ρ B w)(h1:V ρ (Jv x).length (S_ 5 0 x.fv.n) y1)(h2:V ρ (Jv x).length (S_ 6 0 x.lr.n) y2)(h4:V ρ (Jv x).length (S_ 7 0 x.lp.n) y4)(hC:mF x):
  ∃ga ra qa gc gb goff rc rb ro qc qb qo xa xb xo xc,y1=.slice ga x.fv.n gc∧y2=.slice ra x.lr.n rc∧y4=.slice qa x.lp.n qc∧
   RentF w w.heap.size ga ra qa x.fv.n gc gb goff x.lr.n rc rb ro x.lp.n qc qb qo xa xb xo (fun e=>(x.fv.R e 0).n) xc (YS x.fv) (IL x.lr) (IL x.lp) x.rr x.ld:=by
 obtain⟨-,c1,c2,c3,c4,c5,c6,c7,c8,c9,c10,-⟩:=hC;obtain⟨a1,n1,b1,f1,y1e,l1,v1,q1,r1⟩:=EF (ks:=Oc) (r:=x.fv) hm rfl h1;obtain⟨a2,n2,b2,f2,y2e,l2,v2,q2,r2⟩:=EF (ks:=Hf) (r:=x.lr) hm rfl h2;obtain⟨a4,n4,b4,f4,y4e,l4,v4,q4,r4⟩:=EF (ks:=Hf) (r:=x.lp) hm rfl h4;have hs:∀e:Nat,∃f:Option Addr×Nat×Nat×Nat,e<x.fv.n->v1 e 0=.slice f.1 (x.fv.R e 0).n f.2.1∧(0<(x.fv.R e 0).n->f.1=some ⟨f.2.2.1,f.2.2.2,none⟩∧f.2.2.1<w.heap.size)∧∀i,i<(x.fv.R e 0).n->w.cell? ⟨f.2.2.1,f.2.2.2+i,none⟩=some (.int .i64 ((x.fv.R e 0).I i 0)):=fun e=>by
  by_cases he:e<x.fv.n
  ·obtain⟨a,cap,b,off,e1,e2,e3⟩:=Zd (r1 e 0 _ he rfl);exact⟨(a,cap,b,off),fun _=>⟨e1,e2,e3⟩⟩
  ·exact⟨(none,0,0,0),fun h=>absurd h he⟩
 obtain⟨fs,hs⟩:=Classical.axiomOfChoice hs;refine⟨a1,a2,a4,n1,b1,f1,n2,b2,f2,n4,b4,f4,fun e=>(fs e).1,fun e=>(fs e).2.2.1,fun e=>(fs e).2.2.2,fun e=>(fs e).2.1,y1e,y2e,y4e,?_⟩;exact{
  hga:=l1
  hg:=fun e he=>by
   have:=q1 e 0 _ he (show Oc[0]? =some _ from rfl);rw[(hs e he).1]at this;rw[<-this];show w.cell? _=w.cell? ⟨b1,f1+e*1+0,none⟩;rw[Nat.mul_one,Nat.add_zero]
  hx:=fun e he=>⟨c2 e he,(hs e he).2.1,fun j hj=>by
   rw[(hs e he).2.2 j hj];unfold YS;rw[AM ⟨he,hj⟩]⟩
  hra:=l2
  hr:=fun j hj=>by
   have:=q2 j 0 _ hj (show Hf[0]? =some _ from rfl);rw[Ey (r2 j 0 _ hj (show Hf[0]? =some _ from rfl))]at this;unfold IL;rw[AM hj,<-this];show w.cell? _=w.cell? ⟨b2,f2+j*1+0,none⟩;rw[Nat.mul_one,Nat.add_zero]
  hqa:=⟨(l4 c6).1,(l4 c6).2,c6⟩
  hq:=fun j hj=>by
   have:=q4 j 0 _ hj (show Hf[0]? =some _ from rfl);rw[Ey (r4 j 0 _ hj (show Hf[0]? =some _ from rfl))]at this;unfold IL;rw[AM hj,<-this];show w.cell? _=w.cell? ⟨b4,f4+j*1+0,none⟩;rw[Nat.mul_one,Nat.add_zero]
  hX:=fun e j=>by
   unfold YS;split
   ·rename_i h;exact c3 e h.1 j h.2
   ·exact Zc
  hR:=fun j=>by
   unfold IL;split
   ·rename_i h;exact c5 j h
   ·exact Zc
  hQ:=fun j=>by
   unfold IL;split
   ·rename_i h;exact c8 j h
   ·exact Zc
  hrr:=c9
  hld:=c10
  hgn:=c1
  hrn:=c4
  hqn:=c7}
def den_text{v:Ck}(hv:v.Ok):DenW Tryz.prog Wd 6 (Ftx v):=by
 intro wb hwb ds rs hF w hbw args vs mem ρ hfrom hm hl hva;unfold Ftx at hF;split at hF
 ·split at hF
  ·rename_i x hx;simp only[A5,A6]at hF;obtain⟨h0,rfl⟩:=hF;rw[A2]at h0;obtain⟨hck,h0⟩:=h0;rw[CZ hx,UN]at hfrom;simp only[A5,A6]at hfrom;obtain⟨rfl,rfl⟩:=hfrom;obtain⟨c,rfl⟩:∃c,args=[c]:=List.length_eq_one_iff.1 hl.symm;have hchk:∀w',Below w.heap.size w w'->Calls Tryz.prog 10 ⟨[c]⟩ w' fun e w''=>e=.returned (.int .i64 (ckE v x))∧Below w'.heap.size w' w'':=fun w' hb=>by
    refine(Y7 hv wb hwb [x.D] [.v (i64 (ckE v x))] (by
     show some (ckC v x,[D.v (i64 (ckE v x))])=_;rw[hck]) w' (hbw.trans (hb.mono hbw.size)) [c] _ _ ρ (UN x) (aO (ZV x) hm hb) rfl hva).mono fun e w'' ⟨cv,he,hb',us,mem',ρ',hf,_,hcv⟩=>?_
    have e2:us=[i64 (ckE v x)]:=by
     have:AU true [D.v (i64 (ckE v x))] []=some ([i64 (ckE v x)],[]):=rfl;rw[this]at hf;simp only[A5,A6]at hf;exact hf.1.symm
    subst e2;exact⟨by rw[he,MV (show V ρ' mem'.length (.int .i64 (ckE v x)) cv from hcv)],hb'⟩
   obtain⟨cs,rfl,hcs,hcv⟩:=Aoc (hva 0 _ c rfl rfl);have hs:cs.size=15:=hcs.symm;have hout:∀(s:Y_)(n:Int),∀e w',(e=Ending.returned (.tuple #[.string s,.int .i64 n])∧Below w.heap.size w w')->s=JJ (ckE v x) (GZ x)->n=JG (ckE v x) (GZ x)->
     ∃cv,e=.returned cv∧Below w.heap.size w w'∧∃us mem' ρ',AU true [D.v (.string (JJ (ckE v x) (GZ x))),D.v (i64 (JG (ckE v x) (GZ x)))] []=some (us,mem')∧MemR mem' ρ' w.heap.size w'∧V ρ' mem'.length (tupV us) cv:=fun s n e w' ⟨he,hb⟩ h1 h2=>by
    subst h1 h2;refine⟨_,he,hb,[.string _,i64 _],[],fun _=>none,rfl,Oi _ _,?_⟩;refine .tuple rfl fun j x y hx hy=>?_
    match j,hx,hy with
    |0,hx,hy=>simp at hx hy;subst hx hy;exact .str
    |1,hx,hy=>simp at hx hy;subst hx hy;exact .int
   have k0:=MV (show V ρ (Jv x).length (.int .u8 x.k) (cs.getD 0 unk)from hcv 0 _ rfl);have k3:=MV (show V ρ (Jv x).length (.int .u8 x.pc) (cs.getD 3 unk)from hcv 3 _ rfl);have k8:=MV (show V ρ (Jv x).length (.int .i64 x.rr) (cs.getD 8 unk)from hcv 8 _ rfl);have k11:=MV (show V ρ (Jv x).length (.int .i64 x.ld) (cs.getD 11 unk)from hcv 11 _ rfl);have k14:=MV (show V ρ (Jv x).length (.int .u8 x.cl) (cs.getD 14 unk)from hcv 14 _ rfl);have hWd:∀w',Below w.heap.size w w'->Wd w':=fun w' hb=>hwb.later (hbw.trans (hb.mono hbw.size));rw[Aog hs]at hchk⊢;rw[k0,k3,k8,k11,k14]at hchk⊢;by_cases hec:ckE v x=0
   rotate_left
   ·refine(gG w _ _ _ _ _ _ _ _ _ _ _ _ _ _ _ (ckE v x) hec hchk).mono fun e w' h=>hout _ _ e w' h ?_ ?_
    ·unfold JJ;rw[show(ckE v x !=0)=true by simpa using hec];rfl
    ·unfold JG;rw[show(ckE v x !=0)=true by simpa using hec];rfl
   ·rw[show(ckE v x !=0)=false by simpa using hec,Bool.false_or]at h0;unfold dC at h0;simp only[Bool.or_eq_true,A3]at h0;rcases h0 with h0|h0|h0|h0
    ·obtain⟨g1,g2,g3,g4,g5,g6,g7⟩:=h0;obtain⟨a5,p5,b5,o5,y5,l5,v5,q5,r5⟩:=EF (ks:=Oc) (r:=x.gv) hm rfl (hcv 5 _ rfl);obtain⟨a6,p6,b6,o6,y6,l6,v6,q6,r6⟩:=EF (ks:=Hf) (r:=x.aa) hm rfl (hcv 6 _ rfl);rw[y5,y6]at hchk⊢;have hrow:∀e:Nat,∃f:Option Addr×Nat×Nat×Nat,e<x.gv.n->v5 e 0=.slice f.1 (x.gv.R e 0).n f.2.1∧(0<(x.gv.R e 0).n->f.1=some ⟨f.2.2.1,f.2.2.2,none⟩∧f.2.2.1<w.heap.size)∧∀i,i<(x.gv.R e 0).n->w.cell? ⟨f.2.2.1,f.2.2.2+i,none⟩=some (.int .i64 ((x.gv.R e 0).I i 0)):=fun e=>by
      by_cases he:e<x.gv.n
      ·obtain⟨a,cap,b,off,e1,e2,e3⟩:=Zd (r5 e 0 _ he rfl);exact⟨(a,cap,b,off),fun _=>⟨e1,e2,e3⟩⟩
      ·exact⟨(none,0,0,0),fun h=>absurd h he⟩
     obtain⟨f,hf⟩:=Classical.axiomOfChoice hrow;rw[g1]at hchk⊢;have ht:GZ x=goT (YS x.gv) (fun e=>(x.gv.R e 0).n) x.gv.n (IL x.aa) x.aa.n (x.cl+x.pc):=by
      unfold GZ;rw[g1];rfl
     refine(WY w _ _ _ _ _ _ _ _ x.pc x.rr x.ld x.cl a5 a6 x.gv.n p5 x.aa.n p6 b5 o5 b6 o6 (fun e=>(f e).1) (fun e=>(f e).2.2.1) (fun e=>(f e).2.2.2) (fun e=>(x.gv.R e 0).n) (fun e=>(f e).2.1) (YS x.gv) (IL x.aa) (ckE v x) hchk hWd
      (fun h=>(l5 h).1) (fun h=>(l5 h).2) (fun e he=>?_) (fun e he=>(hf e he).2.1) (fun e he j hj=>?_) l6 (fun j hj=>?_) (fun e j=>?_) (fun j=>?_) (fun _=>⟨g2,g3,g5⟩) (fun _=>g7)).mono fun e w' h=>hout _ _ e w' h (by rw[ht]) (by rw[ht])
     ·have:=q5 e 0 _ he (show Oc[0]? =some _ from rfl);rw[(hf e he).1]at this;rw[<-this];show w.cell? _=w.cell? ⟨b5,o5+e*1+0,none⟩;rw[Nat.mul_one,Nat.add_zero]
     ·rw[(hf e he).2.2 j hj];unfold YS;rw[AM ⟨he,hj⟩]
     ·have:=q6 j 0 _ hj (show Hf[0]? =some _ from rfl);rw[Ey (r6 j 0 _ hj (show Hf[0]? =some _ from rfl))]at this;unfold IL;rw[AM hj,<-this];show w.cell? _=w.cell? ⟨b6,o6+j*1+0,none⟩;rw[Nat.mul_one,Nat.add_zero]
     ·unfold YS;split
      ·rename_i h;exact g4 e h.1 j h.2
      ·exact Zc
     ·unfold IL;split
      ·rename_i h;exact g6 j h
      ·exact Zc
    ·obtain⟨g1,g2,g3,g4,g5,g7⟩:=h0;obtain⟨a5,p5,b5,o5,y5,l5,v5,q5,r5⟩:=EF (ks:=ks3) (r:=x.pa) hm rfl (hcv 13 _ rfl);obtain⟨a6,p6,b6,o6,y6,l6,v6,q6,r6⟩:=EF (ks:=Hf) (r:=x.ba) hm rfl (hcv 12 _ rfl);rw[y5,y6]at hchk⊢;rw[g1]at hchk⊢;have ht:GZ x=gW (IL x.ba) x.ba.n (pOf x.pa) x.pa.n (x.cl+x.pc):=by
      unfold GZ;rw[g1];rfl
     refine(Vq w _ _ _ _ _ _ _ _ x.pc x.rr x.ld x.cl a5 a6 x.pa.n p5 x.ba.n p6 b5 o5 b6 o6 (pOf x.pa) (IL x.ba) (ckE v x) hchk hWd
      (fun h=>(l5 h).1) (fun h=>(l5 h).2) (fun e he i hi=>?_) l6 (fun j hj=>?_) (fun e j=>?_) (fun j=>?_) (fun _=>⟨g4,g2⟩) (fun _=>g7)).mono fun e w' h=>hout _ _ e w' h (by rw[ht]) (by rw[ht])
     ·unfold pOf;rw[AM ⟨he,hi⟩];have hk3:ks3[i]? =some (.int .i64):=by
       match i,hi with
       |0,_=>rfl
       |1,_=>rfl
       |2,_=>rfl
      have:=q5 e i _ he hk3;rw[Ey (r5 e i _ he hk3)]at this;exact this
     ·have:=q6 j 0 _ hj (show Hf[0]? =some _ from rfl);rw[Ey (r6 j 0 _ hj (show Hf[0]? =some _ from rfl))]at this;unfold IL;rw[AM hj,<-this];show w.cell? _=w.cell? ⟨b6,o6+j*1+0,none⟩;rw[Nat.mul_one,Nat.add_zero]
     ·unfold pOf;split
      ·rename_i h;exact g5 e h.1 j h.2
      ·exact Zc
     ·unfold IL;split
      ·rename_i h;exact g3 j h
      ·exact Zc
    ·obtain⟨ca,pa,wa,cc,pcp,wcp,cb,co,pb,po,wb,wo,ub,uo,uc,db,dO,dc,sa,va,sb,so,sc,vb,vo,vc,y1,y2,y4,hCF⟩:=ZT hm (hcv 1 _ rfl) (hcv 2 _ rfl) (hcv 4 _ rfl) h0;rw[y1,y2,y4]at hchk⊢;have ht:GZ x=ckT x:=by
      unfold GZ;rw[h0.1];rfl
     rw[h0.1]at hchk⊢;exact(VD w _ _ _ _ _ _ _ x.pc x.rr x.ld x.cl ca pa wa x.ca.n cc x.pi.n pcp x.wo.n wcp cb co pb po wb wo (IL x.ca) ub uo (fun e=>(x.ca.R e 1).n) uc db dO (fun e=>(x.ca.R e 2).n) dc (xO x.ca 1) (xO x.ca 2) sa va sb so (fun e=>(x.pi.R e 0).n) sc vb vo (fun e=>(x.wo.R e 0).n) vc (sO x.pi) (qO x.wo) (ckE v x) hchk hWd (fun _=>hCF) (fun _=>h0.2.2.2.2)).mono fun e w' h=>hout _ _ e w' h (by rw[ht];rfl) (by rw[ht];rfl)
    ·obtain⟨ga,ra,qa,gc,gb,goff,rc,rb,ro,qc,qb,qo,xa,xb,xo,xc,y1,y2,y4,hCF⟩:=ZJ hm (hcv 7 _ rfl) (hcv 9 _ rfl) (hcv 10 _ rfl) h0;rw[y1,y2,y4]at hchk⊢;have ht:GZ x=rnT x:=by
      unfold GZ;rw[h0.1];rfl
     rw[h0.1]at hchk⊢;exact(Xe w _ _ _ _ _ _ _ x.pc x.rr x.ld x.cl ga ra qa x.fv.n gc gb goff x.lr.n rc rb ro x.lp.n qc qb qo xa xb xo (fun e=>(x.fv.R e 0).n) xc (YS x.fv) (IL x.lr) (IL x.lp) (ckE v x) hchk hWd (fun _=>hCF) (fun _=>h0.2.2.2.2.2.2.2.2.2.2.2)).mono fun e w' h=>hout _ _ e w' h (by rw[ht];rfl) (by rw[ht];rfl)
  ·cases hF
 ·cases hF
end Go.Proofs.YtnljjjghpgdmoaaGreatDoor
namespace Go.Proofs.YtnljjjghpgdmoaaGreatDoor
open Go.Ev Go.Lib
def LW(tc:Dc->Bool)(tS:Dc->Y_)(tE:Dc->Int):FD
 |[d]=>match Fe d with
  |some x=>some (tc x,[.v (.string (tS x)),.v (i64 (tE x))])
  |none=>none
 |_=>none
def wD(x:Dc):Dc:=⟨x.k,Ae x.ca,Ae x.pi,x.pc,Ae x.wo,Ae x.gv,Ae x.aa,Ae x.fv,x.rr,Ae x.lr,Ae x.lp,x.ld,Ae x.ba,Ae x.pa,x.cl⟩
def dZ:Dc:=⟨0,.nil,.nil,0,.nil,.nil,.nil,.nil,0,.nil,.nil,0,.nil,.nil,0⟩
def fF:OD:=some [.v (.bool false)]
def vB:Ck:=⟨aX,ZH,ND,Qh,Ho,Fv,Lu (JV (fun a _=>decide (a.n<=1000000))),LM (Kz Du),Ld.gpC,Ld.gpR,Ld.ckE,Ld.Lg.chk⟩
def Afl:vB.Ok where
 sq:=den_sq.at _
 pc:=den_pro.at _
 rc:=den_roo.at _
 rv:=den_rv.at _
 gu:=(Ld.den_groups.mono (fun w h=>h.tz)).less fun ds rs h=>by
  unfold FGu at h;split at h
  ·exact h
  ·cases h
 lc:=(Ld.Lg.den7.at _).less fun ds rs h=>by
  unfold FLc at h;split at h
  ·exact h
  ·cases h
def tcG(x:Dc):Bool:=ckC vB x&&(ckE vB x !=0||dC x)
def tsG(x:Dc):Y_:=JJ (ckE vB x) (GZ x)
def teG(x:Dc):Int:=JG (ckE vB x) (GZ x)
def den_teV:DenW Tryz.prog Wd 6 (LW tcG tsG teG):=(den_text Afl).less fun ds rs h=>by
 unfold LW at h;split at h
 ·exact h
 ·cases h
def Aq{α:Type}{c:Bool}{x y r:Option α}(h:c=true)(hx:x=r):br c x y=r:=by rw[h];exact hx
def BC{α:Type}{c:Bool}{x y r:Option α}(h:c=false)(hx:y=r):br c x y=r:=by rw[h];exact hx
open Go.RowKit
set_option maxRecDepth 100000
abbrev ksS:List CK:=[.str]
def Zu(r:Row)(x:Int):Row:=(w_ r 0 r.n).app (w_ ((Row.zeros 1).setI 0 0 x) 0 1)
def Zv(r:Row)(x y:Int):Row:=(w_ r 0 r.n).app (w_ (((Row.zeros 1).setI 0 0 x).setI 0 1 y) 0 1)
abbrev szP(r:Row):Prop:=∀i,i<r.n->(r.S i 0).size<=4000000000
def oW:Dl:={τ:=pu 4++[.v (.sl 0)]++pu 4++[.v (.sl 1),.v (.int .i64),.v (.int .i64)]++pu 16,saved:=[[]],mem:=[.row Ar true,.row [.str] false]}
structure A_lin where
 on:Nat
 n:Nat
 len:Int
 j:Int
 o:Row
 r:Row
def fA(its:List It):Option A_lin:=match its with|[.n on,.n n,.i len,.i j,.r o,.r r]=>some ⟨on,n,len,j,o,r⟩|_=>none
def rQ(x:A_lin):Bool:=x.j=0∧x.len=x.n∧x.on=x.o.n∧x.n<=1000000∧szP x.r∧x.r.n=x.n∧x.o.n=0
def c_lin_iff{x:A_lin}:=@Bl _ rQ _ _ rfl x
def lin:RunL A_lin (Row):=⟨72,3,[4,9,10,11,1960004],[2,3,4],oW,fA,fun x j a=>[.n a.n,.n x.n,.i (x.n:Int),.i (j:Int),.r a,.r x.r],fun x=>x.n,rQ,fun x=>x.o,fun x j a=>Y4 (Ad (x.r.S j 0)),fun x j a=>Zu a (XY (Ad (x.r.S j 0))),fun x j a K=>K .ret ⟨us 2++[.slice none 0 0,.bool false,.slice (some ⟨0,0,some 0⟩) ((a.n)) 0]++us 23,[[]],[some (.row Ar true ((a)))]⟩,fun x a K=>K (.exit 0) ⟨us 4++[.slice (some ⟨0,0,some 0⟩) ((a.n)) 0]++us 23,[[]],[some (.row Ar true ((a)))]⟩⟩
def nH:Dl:={τ:=pu 4++[.v (.sl 0)]++pu 4++[.v (.sl 1),.v (.int .i64),.v (.int .i64)]++pu 16,saved:=[[]],mem:=[.row JD true,.row [.str] false]}
structure A_len where
 on:Nat
 n:Nat
 len:Int
 j:Int
 o:Row
 r:Row
def gQ(its:List It):Option A_len:=match its with|[.n on,.n n,.i len,.i j,.r o,.r r]=>some ⟨on,n,len,j,o,r⟩|_=>none
def jX(x:A_len):Bool:=x.j=0∧x.len=x.n∧x.on=x.o.n∧x.n<=1000000∧szP x.r∧x.r.n=x.n∧x.o.n=0
def c_len_iff{x:A_len}:=@Bl _ jX _ _ rfl x
def len:RunL A_len (Row):=⟨115,3,[4,9,10,11,31400004],[2,3,4],nH,gQ,fun x j a=>[.n a.n,.n x.n,.i (x.n:Int),.i (j:Int),.r a,.r x.r],fun x=>x.n,jX,fun x=>x.o,fun x j a=>Rt.rpE (Ad (x.r.S j 0)) !=0,fun x j a=>Zv a (Rt.rpN (Ad (x.r.S j 0))) (Rt.rpD (Ad (x.r.S j 0))),fun x j a K=>K .ret ⟨us 2++[.slice none 0 0,.bool false,.slice (some ⟨0,0,some 0⟩) ((a.n)) 0]++us 23,[[]],[some (.row JD true ((a)))]⟩,fun x a K=>K (.exit 0) ⟨us 4++[.slice (some ⟨0,0,some 0⟩) ((a.n)) 0]++us 23,[[]],[some (.row JD true ((a)))]⟩⟩
noncomputable def Cin:Cx:=AP Tryz.prog fns [(116,bV)] [lin.C]
noncomputable def Cen:Cx:=AP Tryz.prog fns [(153,Rt.Fps)] [len.C]
def Adz(R:St->OD)(K:X->St->OD)(q on n:Nat)(len j:Int)(o r:Row):Ak Cin 72 3 q (bst oW [.n on,.n n,.i len,.i j,.r o,.r r]) (BF [4,9,10,11,1960004] (some [2,3,4]) R K)=br (j<len) (br (0<=j&&j<(n:Int)) (br ((r.S (0+j.toNat) 0).size<=4294967296) (br (Y4 (Ad (r.S (0+j.toNat) 0))) (K .ret ⟨us 2++[.slice none 0 0,.bool false,S_ 0 0 on]++us 23,[[]],[Ij Ar o]⟩) (br (on+(w_ ((Row.zeros 1).setI 0 0 (XY (Ad (r.S (0+j.toNat) 0)))) 0 1).n<=10000000000) (R (bst oW [.n (on+1),.n n,.i len,.i (IntKind.i64.wrap (j+1)),.r ((w_ o 0 on).app (w_ ((Row.zeros 1).setI 0 0 (XY (Ad (r.S (0+j.toNat) 0)))) 0 1)),.r r])) none)) none) none) (K (.exit 0) ⟨us 4++[S_ 0 0 on]++us 23,[[]],[Ij Ar o]⟩):=k_
def Adw(R:St->OD)(K:X->St->OD)(q on n:Nat)(len j:Int)(o r:Row):Ak Cen 115 3 q (bst nH [.n on,.n n,.i len,.i j,.r o,.r r]) (BF [4,9,10,11,31400004] (some [2,3,4]) R K)=br (j<len) (br (0<=j&&j<(n:Int)) (br ((r.S (0+j.toNat) 0).size<=4000000000) (br (Rt.rpE (Ad (r.S (0+j.toNat) 0)) !=0) (K .ret ⟨us 2++[.slice none 0 0,.bool false,S_ 0 0 on]++us 23,[[]],[Ij JD o]⟩) (br (on+(w_ (((Row.zeros 1).setI 0 0 (Rt.rpN (Ad (r.S (0+j.toNat) 0)))).setI 0 1 (Rt.rpD (Ad (r.S (0+j.toNat) 0)))) 0 1).n<=10000000000) (R (bst nH [.n (on+1),.n n,.i len,.i (IntKind.i64.wrap (j+1)),.r ((w_ o 0 on).app (w_ (((Row.zeros 1).setI 0 0 (Rt.rpN (Ad (r.S (0+j.toNat) 0)))).setI 0 1 (Rt.rpD (Ad (r.S (0+j.toNat) 0)))) 0 1)),.r r])) none)) none) none) (K (.exit 0) ⟨us 4++[S_ 0 0 on]++us 23,[[]],[Ij JD o]⟩):=k_
def uin(r:Row):BH Cin 6 72 [.slice ksS r]=br (rQ (⟨0,r.n,(r.n:Int),0,Row.nil,r⟩:A_lin)) (br ((Bf (lin.stop (⟨0,r.n,(r.n:Int),0,Row.nil,r⟩:A_lin)) (lin.nx (⟨0,r.n,(r.n:Int),0,Row.nil,r⟩:A_lin)) (lin.len (⟨0,r.n,(r.n:Int),0,Row.nil,r⟩:A_lin)) 0 (lin.ini (⟨0,r.n,(r.n:Int),0,Row.nil,r⟩:A_lin))).1) (some [.slice Ar Row.nil,.v (.bool false)]) (some [.slice Ar (w_ (Bf (lin.stop (⟨0,r.n,(r.n:Int),0,Row.nil,r⟩:A_lin)) (lin.nx (⟨0,r.n,(r.n:Int),0,Row.nil,r⟩:A_lin)) (lin.len (⟨0,r.n,(r.n:Int),0,Row.nil,r⟩:A_lin)) 0 (lin.ini (⟨0,r.n,(r.n:Int),0,Row.nil,r⟩:A_lin))).snd.2 0 (Bf (lin.stop (⟨0,r.n,(r.n:Int),0,Row.nil,r⟩:A_lin)) (lin.nx (⟨0,r.n,(r.n:Int),0,Row.nil,r⟩:A_lin)) (lin.len (⟨0,r.n,(r.n:Int),0,Row.nil,r⟩:A_lin)) 0 (lin.ini (⟨0,r.n,(r.n:Int),0,Row.nil,r⟩:A_lin))).snd.2.n),.v (.bool true)])) (none):=k_
def uen(r:Row):BH Cen 6 115 [.slice ksS r]=br (jX (⟨0,r.n,(r.n:Int),0,Row.nil,r⟩:A_len)) (br ((Bf (len.stop (⟨0,r.n,(r.n:Int),0,Row.nil,r⟩:A_len)) (len.nx (⟨0,r.n,(r.n:Int),0,Row.nil,r⟩:A_len)) (len.len (⟨0,r.n,(r.n:Int),0,Row.nil,r⟩:A_len)) 0 (len.ini (⟨0,r.n,(r.n:Int),0,Row.nil,r⟩:A_len))).1) (some [.slice JD Row.nil,.v (.bool false)]) (some [.slice JD (w_ (Bf (len.stop (⟨0,r.n,(r.n:Int),0,Row.nil,r⟩:A_len)) (len.nx (⟨0,r.n,(r.n:Int),0,Row.nil,r⟩:A_len)) (len.len (⟨0,r.n,(r.n:Int),0,Row.nil,r⟩:A_len)) 0 (len.ini (⟨0,r.n,(r.n:Int),0,Row.nil,r⟩:A_len))).snd.2 0 (Bf (len.stop (⟨0,r.n,(r.n:Int),0,Row.nil,r⟩:A_len)) (len.nx (⟨0,r.n,(r.n:Int),0,Row.nil,r⟩:A_len)) (len.len (⟨0,r.n,(r.n:Int),0,Row.nil,r⟩:A_len)) 0 (len.ini (⟨0,r.n,(r.n:Int),0,Row.nil,r⟩:A_len))).snd.2.n),.v (.bool true)])) (none):=k_
def Akn:Ah Cin lin.C:=lin.ok (fun _ j a=>a.n=j) k_
 (fun its x h hc=>by
  replace h:fA its=some x:=h;unfold fA at h;split at h
  ·cases h;have h:=c_lin_iff.1 hc;dsimp only at h;obtain⟨rfl,rfl,rfl,_⟩:=h;rfl
  ·cases h)
 (fun x hc=>by have:=c_lin_iff.1 hc;show x.n<2^64;omega)
 (fun x hc=>by
  exact(c_lin_iff.1 hc).2.2.2.2.2.2)
 (fun x j a hc hi hI hs=>by
  show a.n+1=j+1;have hI:a.n=j:=hI;rw[hI])
 (fun q ⟨on0,n,len0,j0,o0,r⟩ j a hc hi hI R K=>by
  obtain⟨h1,h2,h3,h4,h5,h6,h7⟩:=c_lin_iff.1 hc;dsimp only at*
  replace hi:j<n:=hi;refine(Adz R K q ((a.n)) n ((n:Int)) ((j:Int)) ((a)) r).trans ?_;have k1:=h5 j o_;rw[A9,AE j,gd j n hi,DX j n hi,Eg o_,A4 (show(r.S j 0).size<=4294967296 by omega)];show br (Y4 (Ad (r.S j 0))) _ (br (decide (a.n+1<=10000000000)) _ none)=_;rw[A4 (show a.n+1<=10000000000 by omega)];rfl)
 (fun q ⟨on0,n,len0,j0,o0,r⟩ a hc hI R K=>by
  obtain⟨h1,h2,h3,h4,h5,h6,h7⟩:=c_lin_iff.1 hc;dsimp only at*
  refine(Adz R K q ((a.n)) n ((n:Int)) ((n:Int)) ((a)) r).trans ?_;rw[EU n];rfl)
def Akd:Ah Cen len.C:=len.ok (fun _ j a=>a.n=j) k_
 (fun its x h hc=>by
  replace h:gQ its=some x:=h;unfold gQ at h;split at h
  ·cases h;have h:=c_len_iff.1 hc;dsimp only at h;obtain⟨rfl,rfl,rfl,_⟩:=h;rfl
  ·cases h)
 (fun x hc=>by have:=c_len_iff.1 hc;show x.n<2^64;omega)
 (fun x hc=>by
  exact(c_len_iff.1 hc).2.2.2.2.2.2)
 (fun x j a hc hi hI hs=>by
  show a.n+1=j+1;have hI:a.n=j:=hI;rw[hI])
 (fun q ⟨on0,n,len0,j0,o0,r⟩ j a hc hi hI R K=>by
  obtain⟨h1,h2,h3,h4,h5,h6,h7⟩:=c_len_iff.1 hc;dsimp only at*
  replace hi:j<n:=hi;refine(Adw R K q ((a.n)) n ((n:Int)) ((j:Int)) ((a)) r).trans ?_;have k1:=h5 j o_;rw[A9,AE j,gd j n hi,DX j n hi,Eg o_,A4 (show(r.S j 0).size<=4000000000 by omega)];show br (Rt.rpE (Ad (r.S j 0)) !=0) _ (br (decide (a.n+1<=10000000000)) _ none)=_;rw[A4 (show a.n+1<=10000000000 by omega)];rfl)
 (fun q ⟨on0,n,len0,j0,o0,r⟩ a hc hI R K=>by
  obtain⟨h1,h2,h3,h4,h5,h6,h7⟩:=c_len_iff.1 hc;dsimp only at*
  refine(Adw R K q ((a.n)) n ((n:Int)) ((n:Int)) ((a)) r).trans ?_;rw[EU n];rfl)
def IZ{β:Type}{stop:Nat->β->Bool}{nx:Nat->β->β}{p:Nat->Bool}(hp:∀j a,stop j a=p j):∀(m j:Nat)(a:β),(Bf stop nx m j a).1=Ag p m j∧(Ag p m j=false->(Bf stop nx m j a).2.2=BK nx m j a)
 |0,j,a=>⟨rfl,fun _=>rfl⟩
 |m+1,j,a=>by
  obtain⟨h1,h2⟩:=IZ hp (nx:=nx) m (j+1) (nx j a);show(bif stop j a then(true,j,a)else Bf stop nx m (j+1) (nx j a)).1=(p j||Ag p m (j+1))∧((p j||Ag p m (j+1))=false->(bif stop j a then(true,j,a)else Bf stop nx m (j+1) (nx j a)).2.2=BK nx m (j+1) (nx j a));rw[hp];cases p j
  ·exact⟨h1,h2⟩
  ·exact⟨rfl,fun h=>by cases h⟩
def LK(r s:Row){i:Nat}(h:i<r.n):((r.app s).I i=r.I i∧(r.app s).S i=r.S i)∧(r.app s).R i=r.R i:=by
 have e:Nat.blt i r.n=true:=by rw[Nat.blt_eq];exact h
 refine⟨⟨funext fun j=>?_,funext fun j=>?_⟩,funext fun j=>?_⟩
 ·show(bif Nat.blt i r.n then _ else _)=_;rw[e];rfl
 ·show(bif Nat.blt i r.n then _ else _)=_;rw[e];rfl
 ·show(bif Nat.blt i r.n then _ else _)=_;rw[e];rfl
def LU(r s:Row){i:Nat}(h:¬i<r.n):((r.app s).I i=s.I (i-r.n)∧(r.app s).S i=s.S (i-r.n))∧(r.app s).R i=s.R (i-r.n):=by
 have e:Nat.blt i r.n=false:=by
  cases hb:Nat.blt i r.n
  ·rfl
  ·rw[Nat.blt_eq]at hb;exact absurd hb h
 refine⟨⟨funext fun j=>?_,funext fun j=>?_⟩,funext fun j=>?_⟩
 ·show(bif Nat.blt i r.n then _ else _)=_;rw[e];rfl
 ·show(bif Nat.blt i r.n then _ else _)=_;rw[e];rfl
 ·show(bif Nat.blt i r.n then _ else _)=_;rw[e];rfl
def NJ(r:Row)(i j:Nat):(Ae r).I i j=r.I i j:=by
 refine(Jf r 0 r.n i j).trans ?_;rw[AE]
def Ano(r:Row)(x:Int):(Zu r x).n=r.n+1:=rfl
def Amz(r:Row)(x:Int){i:Nat}(h:i<r.n):(Zu r x).I i 0=r.I i 0:=congrFun (LK (w_ r 0 r.n) (w_ ((Row.zeros 1).setI 0 0 x) 0 1) (i:=i) h).1.1 0
def Ahd(r:Row)(x:Int):(Zu r x).I r.n 0=x:=by
 refine(congrFun (LU (w_ r 0 r.n) (w_ ((Row.zeros 1).setI 0 0 x) 0 1) (i:=r.n) (Nat.lt_irrefl _)).1.1 0).trans ?_;rw[show r.n-(w_ r 0 r.n).n=0 from Nat.sub_self _];rfl
def Anx(r:Row)(x y:Int):(Zv r x y).n=r.n+1:=rfl
def fP(r:Row)(x y:Int){i:Nat}(h:i<r.n)(c:Nat):(Zv r x y).I i c=r.I i c:=congrFun (LK (w_ r 0 r.n) (w_ (((Row.zeros 1).setI 0 0 x).setI 0 1 y) 0 1) (i:=i) h).1.1 c
def jY(r:Row)(x y:Int):(Zv r x y).I r.n 0=x∧(Zv r x y).I r.n 1=y:=by
 have h:=(LU (w_ r 0 r.n) (w_ (((Row.zeros 1).setI 0 0 x).setI 0 1 y) 0 1) (i:=r.n) (Nat.lt_irrefl _)).1.1;have e:r.n-(w_ r 0 r.n).n=0:=Nat.sub_self _;refine⟨(congrFun h 0).trans ?_,(congrFun h 1).trans ?_⟩<;>rw[e]<;>rfl
def aT(r:Row):Bool×Nat×Row:=Bf (fun j _=>Y4 (Ad (r.S j 0))) (fun j a=>Zu a (XY (Ad (r.S j 0)))) r.n 0 .nil
def Et(r:Row):Bool:= !(aT r).1
def BU(r:Row):Row:=bif (aT r).1 then .nil else Ae (aT r).2.2
def Un(r:Row):Bool×Nat×Row:=Bf (fun j _=>Rt.rpE (Ad (r.S j 0)) !=0) (fun j a=>Zv a (Rt.rpN (Ad (r.S j 0))) (Rt.rpD (Ad (r.S j 0)))) r.n 0 .nil
def BP(r:Row):Bool:= !(Un r).1
def BL(r:Row):Row:=bif (Un r).1 then .nil else Ae (Un r).2.2
def AV(r:Row):Bool:=decide (r.n<=1000000)&& !Ag (fun j=>decide (4000000000<(r.S j 0).size)) r.n 0
def JK{r:Row}(h:AV r=true):r.n<=1000000∧szP r:=by
 unfold AV at h;rw[A2,Bool.not_eq_true',A3]at h;exact⟨h.1,fun i hi=>by have:=anyF_false.1 h.2 i (Nat.zero_le _) o_;have:=AO this;omega⟩
def uU{r:Row}(h1:r.n<=1000000)(h2:szP r):AV r=true:=by
 unfold AV;rw[A2,Bool.not_eq_true',A3];exact⟨h1,anyF_false.2 fun j _ hj=>AB (by have:=h2 j o_;omega)⟩
def JY(c:Row->Bool)(o:Row->Row)(b:Row->Bool):FD
 |[.slice [.str] r]=>some (c r,[.slice [.int .i64] (o r),.v (.bool (b r))])
 |_=>none
def Ko(c:Row->Bool)(o:Row->Row)(b:Row->Bool):FD
 |[.slice [.str] r]=>some (c r,[.slice [.int .i64,.int .i64] (o r),.v (.bool (b r))])
 |_=>none
def Akr:LH Cin Wd:=BA enter mixed (Aw uS AX) (Aw Akn AX)
def Ajb:LH Cen Wd:=BA enter mixed (Aw Rt.den_parp AX) (Aw Akd AX)
def Ug:DenW Tryz.prog Wd 72 (JY AV BU Et):=CO Akr fun ds rs h=>by
 unfold JY at h;split at h
 ·rename_i r;simp only[A5,A6]at h;obtain⟨h0,rfl⟩:=h;obtain⟨h1,h2⟩:=JK h0;refine(uin r).trans ?_;rw[c_lin_iff.2 ⟨rfl,rfl,rfl,h1,h2,rfl,rfl⟩,Aa];show br (aT r).1 (some [D.slice Ar .nil,D.v (.bool false)]) (some [D.slice Ar (Ae (aT r).2.2),D.v (.bool true)])=_;unfold BU Et;cases(aT r).1<;>rfl
 ·cases h
def UE:DenW Tryz.prog Wd 115 (Ko AV BL BP):=CO Ajb fun ds rs h=>by
 unfold Ko at h;split at h
 ·rename_i r;simp only[A5,A6]at h;obtain⟨h0,rfl⟩:=h;obtain⟨h1,h2⟩:=JK h0;refine(uen r).trans ?_;rw[c_len_iff.2 ⟨rfl,rfl,rfl,h1,h2,rfl,rfl⟩,Aa];show br (Un r).1 (some [D.slice JD .nil,D.v (.bool false)]) (some [D.slice JD (Ae (Un r).2.2),D.v (.bool true)])=_;unfold BL BP;cases(Un r).1<;>rfl
 ·cases h
def lF(f:Nat->Int):∀(m j:Nat)(a:Row),a.n=j->(∀i,i<j->a.I i 0=f i)->(BK (fun j a=>Zu a (f j)) m j a).n=j+m∧∀i,i<j+m->(BK (fun j a=>Zu a (f j)) m j a).I i 0=f i
 |0,j,a,h1,h2=>⟨h1,h2⟩
 |m+1,j,a,h1,h2=>by
  have h:=lF f m (j+1) (Zu a (f j)) (by rw[Ano,h1]) (fun i hi=>by
   by_cases hij:i<j
   ·rw[Amz _ _ o_];exact h2 i hij
   ·have:i=a.n:=o_;rw[this,Ahd,h1])
  rw[show j+(m+1)=j+1+m by omega];exact h
def XL(f g:Nat->Int):∀(m j:Nat)(a:Row),a.n=j->(∀i,i<j->a.I i 0=f i∧a.I i 1=g i)->(BK (fun j a=>Zv a (f j) (g j)) m j a).n=j+m∧∀i,i<j+m->(BK (fun j a=>Zv a (f j) (g j)) m j a).I i 0=f i∧(BK (fun j a=>Zv a (f j) (g j)) m j a).I i 1=g i
 |0,j,a,h1,h2=>⟨h1,h2⟩
 |m+1,j,a,h1,h2=>by
  have h:=XL f g m (j+1) (Zv a (f j) (g j)) (by rw[Anx,h1]) (fun i hi=>by
   by_cases hij:i<j
   ·rw[fP _ _ _ o_,fP _ _ _ o_];exact h2 i hij
   ·have:i=a.n:=o_;rw[this,(jY ..).1,(jY ..).2,h1];exact⟨rfl,rfl⟩)
  rw[show j+(m+1)=j+1+m by omega];exact h
def Aec(r:Row):Et r= !Ag (fun j=>Y4 (Ad (r.S j 0))) r.n 0∧(Et r=true->(BU r).n=r.n∧∀i,i<r.n->(BU r).I i 0=XY (Ad (r.S i 0))):=by
 obtain⟨h1,h2⟩:=IZ (stop:=fun j (_:Row)=>Y4 (Ad (r.S j 0))) (nx:=fun j a=>Zu a (XY (Ad (r.S j 0)))) (p:=fun j=>Y4 (Ad (r.S j 0))) (fun _ _=>rfl) r.n 0 .nil;refine⟨by unfold Et aT;rw[h1],fun h=>?_⟩;have hx:(aT r).1=false:=by unfold Et at h;simpa using h
 have e:(aT r).2.2=BK (fun j a=>Zu a (XY (Ad (r.S j 0)))) r.n 0 .nil:=h2 (h1.symm.trans hx);obtain⟨h3,h4⟩:=lF (fun j=>XY (Ad (r.S j 0))) r.n 0 .nil rfl (fun i hi=>absurd hi (Nat.not_lt_zero _));unfold BU;rw[hx,e];refine⟨h3.trans (AE _),fun i hi=>?_⟩;show(Ae _).I i 0=_;rw[NJ];exact h4 i o_
def Adp(r:Row):BP r= !Ag (fun j=>Rt.rpE (Ad (r.S j 0)) !=0) r.n 0∧(BP r=true->(BL r).n=r.n∧∀i,i<r.n->(BL r).I i 0=Rt.rpN (Ad (r.S i 0))∧(BL r).I i 1=Rt.rpD (Ad (r.S i 0))):=by
 obtain⟨h1,h2⟩:=IZ (stop:=fun j (_:Row)=>Rt.rpE (Ad (r.S j 0)) !=0) (nx:=fun j a=>Zv a (Rt.rpN (Ad (r.S j 0))) (Rt.rpD (Ad (r.S j 0)))) (p:=fun j=>Rt.rpE (Ad (r.S j 0)) !=0) (fun _ _=>rfl) r.n 0 .nil;refine⟨by unfold BP Un;rw[h1],fun h=>?_⟩;have hx:(Un r).1=false:=by unfold BP at h;simpa using h
 have e:(Un r).2.2=BK (fun j a=>Zv a (Rt.rpN (Ad (r.S j 0))) (Rt.rpD (Ad (r.S j 0)))) r.n 0 .nil:=h2 (h1.symm.trans hx);obtain⟨h3,h4⟩:=XL (fun j=>Rt.rpN (Ad (r.S j 0))) (fun j=>Rt.rpD (Ad (r.S j 0))) r.n 0 .nil rfl (fun i hi=>absurd hi (Nat.not_lt_zero _));unfold BL;rw[hx,e];refine⟨h3.trans (AE _),fun i hi=>?_⟩;show(Ae _).I i 0=_∧(Ae _).I i 1=_;rw[NJ,NJ];exact h4 i o_
def Aew(r:Row):(BU r).n<=r.n:=by
 cases h:Et r
 ·unfold BU;unfold Et at h;rw[show(aT r).1=true by simpa using h];exact Nat.zero_le _
 ·exact Nat.le_of_eq ((Aec r).2 h).1
def Apo(r:Row):(BL r).n<=r.n:=by
 cases h:BP r
 ·unfold BL;unfold BP at h;rw[show(Un r).1=true by simpa using h];exact Nat.zero_le _
 ·exact Nat.le_of_eq ((Adp r).2 h).1
def BM(j:Nat):Y_:=sDocument++(match j with|0=>sCake|1=>sGoods|2=>sRent|_=>sSettle)
def Ap2(s rest:Y_)(k:Int):St:=⟨[.string s]++us 1++[.pointer (some ⟨0,0,some 0⟩)]++us 2++[.string rest]++us 1++[.pointer (some ⟨1,0,some 0⟩)]++us 58,[[]],[some (.box [.int .u8 0,.slice none 0 0,.slice none 0 0,.int .u8 0,.slice none 0 0,.slice none 0 0,.slice none 0 0,.slice none 0 0,i64 0,.slice none 0 0,.slice none 0 0,i64 0,.slice none 0 0,.slice none 0 0,.int .u8 0]),some (.box [.int .u8 k,.slice none 0 0,.slice none 0 0,.int .u8 0,.slice none 0 0,.slice none 0 0,.slice none 0 0,.slice none 0 0,i64 0,.slice none 0 0,.slice none 0 0,i64 0,.slice none 0 0,.slice none 0 0,.int .u8 0])]⟩
def JI:Dl:={τ:=[.v (.str)]++pu 1++[.v (.c (.pointer (some ⟨0,0,some 0⟩)))]++pu 1++[.v (.str),.v (.str)]++pu 1++[.v (.c (.pointer (some ⟨1,0,some 0⟩)))]++pu 17++[.agg [.str,.str,.str,.str],.v (.int .i64)]++pu 39,saved:=[[]],mem:=[.box [.v (.c (.int .u8 0)),.v (.c (.slice none 0 0)),.v (.c (.slice none 0 0)),.v (.c (.int .u8 0)),.v (.c (.slice none 0 0)),.v (.c (.slice none 0 0)),.v (.c (.slice none 0 0)),.v (.c (.slice none 0 0)),.v (.c (.int .i64 0)),.v (.c (.slice none 0 0)),.v (.c (.slice none 0 0)),.v (.c (.int .i64 0)),.v (.c (.slice none 0 0)),.v (.c (.slice none 0 0)),.v (.c (.int .u8 0))],.box [.v (.int .u8),.v (.c (.slice none 0 0)),.v (.c (.slice none 0 0)),.v (.c (.int .u8 0)),.v (.c (.slice none 0 0)),.v (.c (.slice none 0 0)),.v (.c (.slice none 0 0)),.v (.c (.slice none 0 0)),.v (.c (.int .i64 0)),.v (.c (.slice none 0 0)),.v (.c (.slice none 0 0)),.v (.c (.int .i64 0)),.v (.c (.slice none 0 0)),.v (.c (.slice none 0 0)),.v (.c (.int .u8 0))]]}
structure A_lpk where
 s:Y_
 hd:Y_
 rest:Y_
 w1:Y_
 w2:Y_
 w3:Y_
 w4:Y_
 j:Int
 k:Int
def pU(its:List It):Option A_lpk:=match its with|[.s s,.s hd,.s rest,.s w1,.s w2,.s w3,.s w4,.i j,.i k]=>some ⟨s,hd,rest,w1,w2,w3,w4,j,k⟩|_=>none
def Af7(x:A_lpk):Bool:=x.j=0∧x.w1=sCake∧x.w2=sGoods∧x.w3=sRent∧x.w4=sSettle
def c_lpk_iff{x:A_lpk}:=@Bl _ Af7 _ _ rfl x
def lpk:FoldL A_lpk (Int):=⟨8,6,[0,2,4,5,7,25,26],[0,2,3,5,7],JI,pU,fun x j a=>[.s x.s,.s x.hd,.s x.rest,.s x.w1,.s x.w2,.s x.w3,.s x.w4,.i (j:Int),.i a],fun x=>4,Af7,fun x=>x.k,fun x j a=>bif x.hd.toList==(BM j).toList then(j:Int)+1 else a,fun x a K=>K (.exit 0) (Ap2 x.s x.rest a)⟩
def Afg(GG:List (FuncId×(FD)))(LL:List LoopC)(II:List (FuncId×(List Value->St->Option (Bool×Value×St))))(R:St->OD)(K:X->St->OD)(q:Nat)(s hd rest w1 w2 w3 w4:Y_)(j k:Int):Ak (AP Tryz.prog fns GG LL [] II) 8 6 q (bst JI [.s s,.s hd,.s rest,.s w1,.s w2,.s w3,.s w4,.i j,.i k]) (BF [0,2,4,5,7,25,26] (some [0,2,3,5,7]) R K)=br (j<4) (br (0<=j&&j<(↑4:Int)) (br (j=(↑0:Int)) (br ((↑({data:= #[100,111,99,117,109,101,110,116,32]:Y_}.size+w1.size):Int)>IntKind.i64.max) none (br (hd.toList==({data:={toList:=[100,111,99,117,109,101,110,116,32]:Array UInt8}:Y_}++w1).toList) (R (bst JI [.s s,.s hd,.s rest,.s w1,.s w2,.s w3,.s w4,.i (IntKind.i64.wrap (j+1)),.i (IntKind.u8.wrap (IntKind.i64.wrap (j+1)))])) (R (bst JI [.s s,.s hd,.s rest,.s w1,.s w2,.s w3,.s w4,.i (IntKind.i64.wrap (j+1)),.i k])))) (br (j=(↑1:Int)) (br ((↑({data:= #[100,111,99,117,109,101,110,116,32]:Y_}.size+w2.size):Int)>IntKind.i64.max) none (br (hd.toList==({data:={toList:=[100,111,99,117,109,101,110,116,32]:Array UInt8}:Y_}++w2).toList) (R (bst JI [.s s,.s hd,.s rest,.s w1,.s w2,.s w3,.s w4,.i (IntKind.i64.wrap (j+1)),.i (IntKind.u8.wrap (IntKind.i64.wrap (j+1)))])) (R (bst JI [.s s,.s hd,.s rest,.s w1,.s w2,.s w3,.s w4,.i (IntKind.i64.wrap (j+1)),.i k])))) (br (j=(↑2:Int)) (br ((↑({data:= #[100,111,99,117,109,101,110,116,32]:Y_}.size+w3.size):Int)>IntKind.i64.max) none (br (hd.toList==({data:={toList:=[100,111,99,117,109,101,110,116,32]:Array UInt8}:Y_}++w3).toList) (R (bst JI [.s s,.s hd,.s rest,.s w1,.s w2,.s w3,.s w4,.i (IntKind.i64.wrap (j+1)),.i (IntKind.u8.wrap (IntKind.i64.wrap (j+1)))])) (R (bst JI [.s s,.s hd,.s rest,.s w1,.s w2,.s w3,.s w4,.i (IntKind.i64.wrap (j+1)),.i k])))) (br (j=(↑(0+1+1+1):Int)) (br ((↑({data:= #[100,111,99,117,109,101,110,116,32]:Y_}.size+w4.size):Int)>IntKind.i64.max) none (br (hd.toList==({data:={toList:=[100,111,99,117,109,101,110,116,32]:Array UInt8}:Y_}++w4).toList) (R (bst JI [.s s,.s hd,.s rest,.s w1,.s w2,.s w3,.s w4,.i (IntKind.i64.wrap (j+1)),.i (IntKind.u8.wrap (IntKind.i64.wrap (j+1)))])) (R (bst JI [.s s,.s hd,.s rest,.s w1,.s w2,.s w3,.s w4,.i (IntKind.i64.wrap (j+1)),.i k])))) none)))) none) (K (.exit 0) (Ap2 s rest k)):=k_
def Aib(GG:List (FuncId×(FD)))(LL:List LoopC)(II:List (FuncId×(List Value->St->Option (Bool×Value×St)))):Ah (AP Tryz.prog fns GG LL [] II) lpk.C:=lpk.ok (fun x j a=>True) k_
 (fun its x h hc=>by
  replace h:pU its=some x:=h;unfold pU at h;split at h
  ·cases h;have h:=c_lpk_iff.1 hc;dsimp only at h;obtain⟨rfl,rfl,rfl,rfl,rfl⟩:=h;rfl
  ·cases h)
 (fun x hc=>by have:=c_lpk_iff.1 hc;show 4<2^64;omega)
 (fun x hc=>by
  trivial)
 (fun x j a hc hi hI=>by
  trivial)
 (fun q ⟨s,hd,rest,w1,w2,w3,w4,j0,k0⟩ j a hc hi hI R K=>by
  obtain⟨h1,h2,h3,h4,h5⟩:=c_lpk_iff.1 hc;dsimp only at*
  replace hi:j<4:=hi;refine(Afg GG LL II R K q s hd rest w1 w2 w3 w4 ((j:Int)) ((a))).trans ?_;have hj:j=0∨j=1∨j=2∨j=3:=o_;subst h2 h3 h4 h5;rcases hj with rfl|rfl|rfl|rfl
  ·show br (hd.toList==(BM 0).toList) (R _) (R _)=R (bst lpk.p (lpk.S _ (0+1) (bif hd.toList==(BM 0).toList then((0:Nat):Int)+1 else a)));cases hd.toList==(BM 0).toList<;>rfl
  ·show br (hd.toList==(BM 1).toList) (R _) (R _)=R (bst lpk.p (lpk.S _ (1+1) (bif hd.toList==(BM 1).toList then((1:Nat):Int)+1 else a)));cases hd.toList==(BM 1).toList<;>rfl
  ·show br (hd.toList==(BM 2).toList) (R _) (R _)=R (bst lpk.p (lpk.S _ (2+1) (bif hd.toList==(BM 2).toList then((2:Nat):Int)+1 else a)));cases hd.toList==(BM 2).toList<;>rfl
  ·show br (hd.toList==(BM 3).toList) (R _) (R _)=R (bst lpk.p (lpk.S _ (3+1) (bif hd.toList==(BM 3).toList then((3:Nat):Int)+1 else a)));cases hd.toList==(BM 3).toList<;>rfl)
 (fun q ⟨s,hd,rest,w1,w2,w3,w4,j0,k0⟩ a hc hI R K=>by
  obtain⟨h1,h2,h3,h4,h5⟩:=c_lpk_iff.1 hc;dsimp only at*
  refine(Afg GG LL II R K q s hd rest w1 w2 w3 w4 (((4:Nat):Int)) ((a))).trans ?_;rfl)
end Go.Proofs.YtnljjjghpgdmoaaGreatDoor
namespace Go.Proofs.YtnljjjghpgdmoaaGreatDoor.Ln
open Go.Ev Go.Lib Go.RowKit
open Go.Dec (HY Dz nDigits_lt BV CJ)
def IP:∀(l m:List UInt8)(a:Nat),parseUint10 a (l++m)=match parseUint10 a l with
  |.ok b=>parseUint10 b m
  |Go.Lib.NumEnd.syntax=>Go.Lib.NumEnd.syntax
  |.range=>.range
 |[],m,a=>rfl
 |c::r,m,a=>by
  simp only[List.cons_append,parseUint10];split
  ·split
   ·rfl
   ·split
    ·rfl
    ·exact IP r m _
  ·rfl
def parse10_dec:∀(N u:Nat),u<=N->u<=18446744073709551615->parseUint10 0 (decDigits u)=.ok u:=by
 intro N
 induction N with
 |zero=>
  intro u h _;obtain rfl:u=0:=o_;rw[decDigits_one o_];simp[parseUint10]
 |succ N ih=>
  intro u h hu;by_cases hs:u<10
  ·rw[decDigits_one hs];simp only[parseUint10];rw[CJ _ o_,AM o_,AL o_,AL o_]
   congr 1
   omega
  ·rw[BV hs,IP,ih (u/10) o_ o_];simp only[parseUint10];rw[CJ _ o_,AM o_,AL o_,AL o_]
   congr 1
   omega
def sp(k:UInt8):List UInt8->List UInt8×Option (List UInt8)
 |[]=>([],none)
 |c::r=>if c=k then([],some r)else(c::(sp k r).1,(sp k r).2)
def Gm(k:UInt8):∀l:List UInt8,l=(sp k l).1++(match(sp k l).2 with|none=>[]|some r=>k::r)
 |[]=>rfl
 |c::r=>by
  unfold sp;by_cases h:c=k
  ·rw[AM h,h];rfl
  ·rw[AL h];have:=Gm k r;show c::r=c::((sp k r).1++_);rw[<-this]
def Kr(k:UInt8):∀(x y:List UInt8),(∀c∈x,c≠k)->sp k (x++k::y)=(x,some y)
 |[],y,_=>by simp[sp]
 |c::x,y,h=>by
  show sp k (c::(x++k::y))=_;unfold sp;rw[AL (h c y_),Kr k x y fun d hd=>h d (by simp[hd])]
def Jq(k:UInt8):∀(x:List UInt8),(∀c∈x,c≠k)->sp k x=(x,none)
 |[],_=>rfl
 |c::x,h=>by
  unfold sp;rw[AL (h c y_),Jq k x fun d hd=>h d (by simp[hd])]
def Hm(k:UInt8):∀l:List UInt8,index l [k]=match(sp k l).2 with|none=> -1|some _=>((sp k l).1.length:Int)
 |[]=>rfl
 |c::r=>by
  unfold index sp;by_cases h:c=k
  ·subst h;rw[AM (by simp[List.isPrefixOf])];rw[AM rfl];rfl
  ·have hp:[(k:UInt8)].isPrefixOf (c::r)=false:=by
    simp only[List.isPrefixOf,Bool.and_eq_false_iff]
    left
    exact beq_eq_false_iff_ne.2 fun e=>h e.symm
   rw[AL (by rw[hp];decide),AL h,Hm k r];show(if _ then _ else _)=match(sp k r).2 with|none=>(-1:Int)|some _=>((c::(sp k r).1).length:Int)
   cases(sp k r).2 with
   |none=>rfl
   |some y=>
    simp only[List.length_cons];rw[AL y_];omega
def Ec(k:UInt8):∀l:List UInt8,l.take (sp k l).1.length=(sp k l).1∧((sp k l).2=none->(sp k l).1.length=l.length)∧∀r,(sp k l).2=some r->(sp k l).1.length<l.length∧l.drop ((sp k l).1.length+1)=r∧l[(sp k l).1.length]? =some k
 |[]=>⟨rfl,fun _=>rfl,fun r h=>by cases h⟩
 |c::r=>by
  unfold sp;by_cases h:c=k
  ·rw[AM h];exact⟨rfl,(fun h=>by cases h),fun y hy=>by cases hy;exact⟨y_,y_,by simp[h]⟩⟩
  ·rw[AL h];obtain⟨h1,h2,h3⟩:=Ec k r;refine⟨by simp[h1],fun hn=>by simp[h2 hn],fun y hy=>?_⟩;obtain⟨a,b,d⟩:=h3 y hy;exact⟨z_,by simpa using b,by simpa using d⟩
def IE(k:UInt8)(l:List UInt8):cut l [k]=((sp k l).1,(sp k l).2.getD [],(sp k l).2.isSome):=by
 unfold cut;rw[Hm k];obtain⟨h1,h2,h3⟩:=Ec k l;cases hs:(sp k l).2 with
 |none=>
  simp only[hs];rw[AL o_];have:=Gm k l;rw[hs]at this;simp only[List.append_nil]at this;rw[<-this];rfl
 |some y=>
  obtain⟨a,b,_⟩:=h3 y hs;simp only[hs];rw[AM o_,A9,h1];simp only[List.length_cons,List.length_nil,AE,b];rfl
def pieces(k:UInt8):List UInt8->List (List UInt8)
 |[]=>[[]]
 |c::r=>if c=k then []::pieces k r else match pieces k r with
  |[]=>[[c]]
  |p::ps=>(c::p)::ps
def pieces_ne(k:UInt8):∀l:List UInt8,pieces k l≠[]
 |[]=>by simp[pieces]
 |c::r=>by
  unfold pieces;split
  ·simp
  ·split<;>simp
def pieces_sp(k:UInt8):∀l:List UInt8,pieces k l=(sp k l).1::(match(sp k l).2 with|none=>[]|some r=>pieces k r)
 |[]=>rfl
 |c::r=>by
  have e:sp k (c::r)=if c=k then([],some r)else(c::(sp k r).1,(sp k r).2):=rfl;have e2:pieces k (c::r)=if c=k then []::pieces k r else match pieces k r with
   |[]=>[[c]]
   |p::ps=>(c::p)::ps:=rfl
  rw[e,e2];by_cases h:c=k
  ·rw[AM h,AM h]
  ·rw[AL h,AL h,pieces_sp k r]
def pieces_none(k:UInt8)(x:List UInt8)(h:∀c∈x,c≠k):pieces k x=[x]:=by rw[pieces_sp,Jq k x h]
def pieces_app(k:UInt8)(x y:List UInt8)(h:∀c∈x,c≠k):pieces k (x++k::y)=x::pieces k y:=by rw[pieces_sp,Kr k x y h]
def pieces_join(k:UInt8):∀(x:List UInt8)(r:List (List UInt8)),(∀p∈x::r,∀c∈p,c≠k)->pieces k (x++(r.map (k:: ·)).flatten)=x::r
 |x,[],h=>by rw[List.map_nil,List.flatten_nil,List.append_nil];exact pieces_none k x (h x y_)
 |x,y::r,h=>by
  rw[List.map_cons,List.flatten_cons,List.cons_append,pieces_app k x _ (h x y_),pieces_join k y r fun p hp=>h p (by simp[hp])]
def Ue(s:Y_)(i:Nat):Ad (s.extract 0 i)=(Ad s).take i:=by
 unfold Ad;simp[ByteArray.data_extract,List.extract]
def by_extract1(s:Y_)(i:Nat):Ad (s.extract i s.size)=(Ad s).drop i:=by
 unfold Ad;rw[ByteArray.data_extract];show(s.data.extract i s.data.size).toList=_;rw[Array.toList_extract,List.extract,List.take_of_length_le y_]
def splS_pieces(k:UInt8):∀(n:Nat)(s:Y_),s.size<=n->(CX s ⟨#[k]⟩).map Ad=pieces k (Ad s):=by
 intro n
 induction n with
 |zero=>
  intro s hs;have e:Ad s=[]:=List.eq_nil_of_length_eq_zero (by rw[<-AZ];omega);have hi:indexB s ⟨#[k]⟩= -1:=by
   show index (Ad s) [k]= -1;rw[e];rfl
  unfold CX;rw[countB_miss _ _ hi,splitB_zero,e];show [Ad s]=[[]];rw[e]
 |succ n ih=>
  intro s hs;have hx:=Hm k (Ad s);rw[pieces_sp];cases h2:(sp k (Ad s)).2 with
  |none=>
   rw[h2]at hx;have hi:indexB s ⟨#[k]⟩= -1:=hx;unfold CX;rw[countB_miss _ _ hi,splitB_zero];have:=Gm k (Ad s);rw[h2]at this;simp only[List.append_nil]at this;show [Ad s]=[(sp k (Ad s)).1];rw[<-this]
  |some r=>
   rw[h2]at hx;have hi:indexB s ⟨#[k]⟩=(((sp k (Ad s)).1.length:Nat):Int):=hx;obtain⟨t1,_,t3⟩:=Ec k (Ad s);obtain⟨a,b,_⟩:=t3 r h2;have hsz:(⟨#[k]⟩:Y_).size=1:=rfl;unfold CX;rw[countB_hit s ⟨#[k]⟩ _ (AC _) hi,Nat.add_comm,splitB_hit _ _ _ _ _ hi,List.map_cons,hsz,Nat.add_zero];have e1:Ad (s.extract 0 (sp k (Ad s)).1.length)=(sp k (Ad s)).1:=by rw[Ue,t1]
   have e2:Ad (s.extract ((sp k (Ad s)).1.length+1) s.size)=r:=by rw[by_extract1,b]
   have hle:(s.extract ((sp k (Ad s)).1.length+1) s.size).size<=n:=by
    rw[AZ,e2,<-b,List.length_drop,<-AZ];rw[<-AZ]at a;omega
   have:=ih _ hle;unfold CX at this;rw[e1,this,e2]
def oneB(s:Y_):Y_:=txt (sp 10 (Ad s)).1
def restB(s:Y_):Y_:=txt ((sp 10 (Ad s)).2.getD [])
def okB(s:Y_):Bool:=(sp 10 (Ad s)).2.isSome
def yV:Nat->List UInt8->Nat
 |0,_=>0
 |_+1,[]=>0
 |f+1,c::r=>yV f ((sp 10 (c::r)).2.getD [])+1
def QI(k c:UInt8)(r:List UInt8):((sp k (c::r)).2.getD []).length<(c::r).length:=by
 obtain⟨_,_,h3⟩:=Ec k (c::r);cases h:(sp k (c::r)).2 with
 |none=>simp
 |some y=>
  obtain⟨h4,h5,_⟩:=h3 y h;show y.length<_;rw[<-h5,List.length_drop];omega
def nO:∀(f g:Nat)(l:List UInt8),l.length<=f->l.length<=g->yV f l=yV g l
 |0,0,l,_,_=>rfl
 |0,g+1,[],_,_=>rfl
 |0,g+1,c::r,h,_=>by simp at h
 |f+1,0,[],_,_=>rfl
 |f+1,0,c::r,_,h=>by simp at h
 |f+1,g+1,[],_,_=>rfl
 |f+1,g+1,c::r,h1,h2=>by
  have:=QI 10 c r;simp only[List.length_cons]at h1 h2 this;show yV f _+1=yV g _+1;rw[nO f g _ o_ o_]
def wK:∀(f:Nat)(l:List UInt8),yV f l<=f
 |0,_=>AC _
 |f+1,[]=>Nat.zero_le _
 |f+1,c::r=>Nat.succ_le_succ (wK f _)
def lnN(s:Y_):Nat:=yV s.size (Ad s)
def QU{s:Y_}(h:Ad s≠[]):(restB s).size<s.size:=by
 unfold restB;rw[txt_size,AZ s];cases hb:Ad s with
 |nil=>exact absurd hb h
 |cons c r=>exact QI 10 c r
def lnN_rest{s:Y_}(h:Ad s≠[]):lnN s=lnN (restB s)+1:=by
 have h1:=QU h;unfold lnN;cases hb:Ad s with
 |nil=>exact absurd hb h
 |cons c r=>
  have hs:s.size=(s.size-1)+1:=by have:=AZ s;rw[hb,List.length_cons]at this;omega
  rw[hs];show yV (s.size-1) _+1=yV (restB s).size (Ad (restB s))+1;have e:Ad (restB s)=(sp 10 (c::r)).2.getD []:=by unfold restB;rw[CB,hb]
  rw[e]
  congr 1
  refine nO _ _ _ ?_ ?_
  ·rw[<-e,<-AZ];omega
  ·rw[<-e,<-AZ];exact AC _
def lnN_nil{s:Y_}(h:Ad s=[]):lnN s=0:=by
 unfold lnN;rw[AZ,h];rfl
def lnN_zero{s:Y_}(h:lnN s=0):Ad s=[]:=by
 cases hb:Ad s with
 |nil=>rfl
 |cons c r=>have:=lnN_rest (s:=s) (by rw[hb];simp);omega
def lnN_le(s:Y_):lnN s<=s.size:=wK _ _
def cutN(s:Y_):cut (Ad s) (Ad ⟨#[10]⟩)=((sp 10 (Ad s)).1,(sp 10 (Ad s)).2.getD [],(sp 10 (Ad s)).2.isSome):=IE 10 (Ad s)
def one_size(s:Y_):(oneB s).size<=s.size:=by
 unfold oneB;rw[txt_size,AZ s];have:=(Ec 10 (Ad s)).1;have h:=congrArg List.length this;rw[List.length_take]at h;omega
def rest_le(s:Y_):(restB s).size<=s.size:=by
 by_cases h:Ad s=[]
 ·unfold restB;rw[h,txt_size];exact Nat.zero_le _
 ·exact Nat.le_of_lt (QU h)
def Ux{c:UInt8}(h:45<=c.toNat):c≠32∧c≠10:=⟨fun he=>by rw[he]at h;exact absurd h d_,fun he=>by rw[he]at h;exact absurd h d_⟩
def itoa_spec(n:Int):∀c∈itoa n,c≠32∧c≠10:=fun c hc=>by
 refine Ux ?_;unfold itoa at hc;split at hc
 ·rcases A8.1 hc with rfl|hc
  ·decide
  ·have:=Dz _ _ (AC _) c hc;omega
 ·have:=Dz _ _ (AC _) c hc;omega
def sp_line{x y:List UInt8}(h:∀c∈x,c≠10):okB (txt (x++10::y))=true∧oneB (txt (x++10::y))=txt x∧restB (txt (x++10::y))=txt y:=by
 unfold okB oneB restB;rw[CB,Kr 10 x y h];exact⟨rfl,rfl,rfl⟩
end Go.Proofs.YtnljjjghpgdmoaaGreatDoor.Ln
namespace Go.Proofs.YtnljjjghpgdmoaaGreatDoor
open Go.Ev Go.Lib Go.RowKit
def sNl:Y_:=⟨⟨[10]⟩⟩
def sSpc:Y_:=⟨⟨[32]⟩⟩
def AY(s:Y_):Row:=Zx (CX s sSpc)
def BG(r:Row):Row:=w_ r 1 (r.n-1)
def Ob(r:Row)(e n j k:Nat):(w_ r e n).S j k=r.S (e+j) k:=by
 cases e
 ·show r.S j k=r.S (0+j) k;rw[AE]
 ·rfl
def U1(x:Nat->Int):∀n,BI x n=(((List.range n).map fun j=>itoa (x j)).map (32:: ·)).flatten
 |0=>rfl
 |n+1=>by
  rw[List.range_succ,List.map_append,List.map_append,List.flatten_append,<-U1 x n];simp[BI]
def UM(x:Nat->Int×Int):∀n,FO x n=(((List.range n).map fun j=>N8 (x j)).map (32:: ·)).flatten
 |0=>rfl
 |n+1=>by
  rw[List.range_succ,List.map_append,List.map_append,List.flatten_append,<-UM x n];simp[FO]
def dL(wd:List UInt8)(r:List (List UInt8))(h:∀p∈wd::r,∀c∈p,c≠32):CX (txt (wd++(r.map (32:: ·)).flatten)) sSpc=(wd::r).map txt:=by
 have h1:=Ln.splS_pieces 32 (txt (wd++(r.map (32:: ·)).flatten)).size (txt (wd++(r.map (32:: ·)).flatten)) (AC _);rw[CB,Ln.pieces_join 32 wd r h]at h1;have h2:∀l:List Y_,(l.map Ad).map txt=l:=fun l=>by
  rw[List.map_map];refine(List.map_congr_left fun s _=>?_).trans (List.map_id l);exact txt_by s
 rw[<-h1];exact(h2 _).symm
def Q9(wd:List UInt8)(n:Nat)(f:Nat->List UInt8)(h1:∀c∈wd,c≠32)(h2:∀j,j<n->∀c∈f j,c≠32):
  let s:=txt (wd++(((List.range n).map f).map (32:: ·)).flatten)
  (AY s).n=n+1∧(AY s).S 0 0=txt wd∧(BG (AY s)).n=n∧∀j,j<n->(BG (AY s)).S j 0=txt (f j):=by
 intro s;have hs:CX s sSpc=(wd::(List.range n).map f).map txt:=dL wd _ fun p hp=>by
  rcases A8.1 hp with rfl|hp
  ·exact h1
  ·obtain⟨j,hj,rfl⟩:=List.mem_map.1 hp;exact h2 j (List.mem_range.1 hj)
 have hn:(AY s).n=n+1:=by
  show(CX s sSpc).length=_;rw[hs];simp
 have hS:∀i,(AY s).S i 0=((wd::(List.range n).map f).map txt).getD i .empty:=fun i=>by
  show(CX s sSpc).getD i .empty=_;rw[hs]
 refine⟨hn,hS 0,?_,fun j hj=>?_⟩
 ·show(w_ (AY s) 1 ((AY s).n-1)).n=n;rw[wn_,hn];rfl
 ·show(w_ (AY s) 1 ((AY s).n-1)).S j 0=_;rw[Ob,hS,Nat.add_comm];simp[List.getD_eq_getElem?_getD,hj]
def Acw(n:Int):∀c∈itoa n,c≠32:=fun c hc=>(Ln.itoa_spec n c hc).1
def lH(q:Int×Int):∀c∈N8 q,c≠32∧c≠10:=fun c hc=>by
 unfold N8 Rt.txL at hc;split at hc
 ·split at hc
  ·rcases List.mem_append.1 hc with h|h
   ·exact Ln.itoa_spec _ c h
   ·rcases A8.1 h with rfl|h
    ·decide
    ·exact Ln.itoa_spec _ c h
  ·exact Ln.itoa_spec _ c hc
 ·cases hc
end Go.Proofs.YtnljjjghpgdmoaaGreatDoor
namespace Go.Ev
open Go.RowKit
variable{ρ:Map}
def bx0:Value:=.pointer (some ⟨0,0,some 0⟩)
def bx1:Value:=.pointer (some ⟨1,0,some 0⟩)
def zI:Value->Bool
 |.pointer (some ⟨0,0,some 0⟩)=>true
 |.pointer (some ⟨1,0,some 0⟩)=>true
 |.chan none=>true
 |.tuple xs=>xs.toList.all Di
 |x=>D8 x
def Z9{x:Value}(h:zI x=true):x=bx0∨x=bx1∨x=.chan none∨(∃xs,x=.tuple xs∧xs.toList.all Di=true)∨D8 x=true:=by
 unfold zI at h;split at h
 ·exact .inl rfl
 ·exact .inr (.inl rfl)
 ·exact .inr (.inr (.inl rfl))
 ·exact .inr (.inr (.inr (.inl ⟨_,rfl,h⟩)))
 ·exact .inr (.inr (.inr (.inr h)))
def XH{N:Nat}{id e j:Nat}{L:Loc}{y y':Value}(hL:ρ id=some L)(h:V ρ N (.pointer (some ⟨id,e,some j⟩)) y)(h':V ρ N (.pointer (some ⟨id,e,some j⟩)) y'):y=y':=by
 cases h with
 |ptrDead _ h2=>rw[hL]at h2;cases h2
 |ptr _ h2 _=>
  cases h' with
  |ptrDead _ h3=>rw[hL]at h3;cases h3
  |ptr _ h3 _=>
   rw[h2]at h3;cases h3;rfl
def Ack{ρ1:Map}{N N1:Nat}{y0 y1:Value}{L0 L1:Loc}(h0:ρ 0=some L0)(h1:ρ 1=some L1)(a0:V ρ N bx0 y0)(a1:V ρ N bx1 y1)(b0:V ρ1 N1 bx0 y0)(b1:V ρ1 N1 bx1 y1){x y:Value}(hx:zI x=true)(hv:V ρ N x y):V ρ1 N1 x y:=by
 rcases Z9 hx with rfl|rfl|rfl|⟨xs,rfl,h⟩|h
 ·rw[XH h0 hv a0];exact b0
 ·rw[XH h1 hv a1];exact b1
 ·exact .unk
 ·cases hv with
  |@tuple _ ys g1 g2=>
   refine .tuple g1 fun i x y hx hy=>?_;have hp:=List.all_eq_true.1 h x (by
    rw[<-Array.getElem?_toList]at hx;exact List.mem_of_getElem? hx)
   rw[(g2 i x y hx hy).atom1_eq hp];exact V.refl1 hp
 ·rw[hv.plain1 h];exact V.reflP h
def dM{ρ1:Map}{N N1:Nat}{y0 y1:Value}{L0 L1:Loc}(h0:ρ 0=some L0)(h1:ρ 1=some L1)(a0:V ρ N bx0 y0)(a1:V ρ N bx1 y1)(b0:V ρ1 N1 bx0 y0)(b1:V ρ1 N1 bx1 y1){τ:List Value}{ts:Array Value}(hx:τ.all zI=true)(hv:TmpR ρ N τ ts):TmpR ρ1 N1 τ ts:=
 ⟨hv.1,fun t x y hx' hy'=>Ack h0 h1 a0 a1 b0 b1 (List.all_eq_true.1 hx x (List.mem_of_getElem? hx')) (hv.2 t x y hx' hy')⟩
def Ze{ρ1:Map}{N N1:Nat}{y0 y1:Value}{L0 L1:Loc}(h0:ρ 0=some L0)(h1:ρ 1=some L1)(a0:V ρ N bx0 y0)(a1:V ρ N bx1 y1)(b0:V ρ1 N1 bx0 y0)(b1:V ρ1 N1 bx1 y1):∀{τs:List (List Value)}{cs:List (Array Value)},(τs.all fun τ=>τ.all zI)=true->TmpsR ρ N τs cs->TmpsR ρ1 N1 τs cs
 |[],[],_,_=>trivial
 |τ::τs,c::cs,hx,hv=>by
  simp only[List.all_cons,A2]at hx;exact⟨dM h0 h1 a0 a1 b0 b1 hx.1 hv.1,Ze h0 h1 a0 a1 b0 b1 hx.2 hv.2⟩
 |[],_::_,_,h=>h.elim
 |_::_,[],_,h=>h.elim
open Classical in
def vU{C:Cx}{w0:World}(hC:CxAt C w0){d:Nat}{g:FuncId}{args:List Value}{mem mem1:M_}{v:Value}(hp:D8 v=true)
  (hev:∀J:Value->St->OD,inl C d g args {τ:=[bx0,bx1],saved:=[],mem:=mem} (fun v' σ'=>J v' (Nh [0,1] σ'))=J v {τ:=[bx0,bx1],saved:=[],mem:=mem1})
  {σ:St} (hσ:σ.mem=mem) (hτ:σ.τ.all zI=true) (hs:(σ.saved.all fun τ=>τ.all zI)=true) {i0 i1:Nat} (h0:σ.τ[i0]? =some bx0) (h1:σ.τ[i1]? =some bx1) {b0 b1:Blk} (m0:mem[0]? =some (some b0)) (m1:mem[1]? =some (some b1))
  {a:Act} {cs:List (Array Value)} {w:World} {cargs:List Value} (hR:Rel w0 σ a cs w ρ) (hv:Vs ρ σ.mem.length args cargs):
  Calls C.P g ⟨cargs⟩ w fun e w'=>∃cv ρ1,e=.returned cv∧Rel w0 {σ with mem:=mem1} a cs w' ρ1∧V ρ1 mem1.length v cv:=by
 subst hσ;obtain⟨L0,hL0,-⟩:=hR.mem.blk 0 b0 m0;obtain⟨L1,hL1,-⟩:=hR.mem.blk 1 b1 m1;have z0:V ρ σ.mem.length bx0 (a.tmps.getD i0 undef):=by
  have:=hR.tmps.getD i0
  rwa [List.getD_eq_getElem?_getD,h0]at this
 have z1:V ρ σ.mem.length bx1 (a.tmps.getD i1 undef):=by
  have:=hR.tmps.getD i1
  rwa [List.getD_eq_getElem?_getD,h1]at this
 generalize a.tmps.getD i0 undef=y0 at z0;generalize a.tmps.getD i1 undef=y1 at z1;have hRe:Rel w0 {τ:=[bx0,bx1],saved:=[],mem:=σ.mem} {a with tmps:= #[y0,y1]} [] w ρ:=
  ⟨hR.defers,⟨rfl,fun t x y hx hy=>by
   match t,hx,hy with
   |0,hx,hy=>simp at hx hy;subst hx hy;exact z0
   |1,hx,hy=>simp at hx hy;subst hx hy;exact z1
   |t+2,hx,hy=>simp at hx⟩,trivial,hR.below,hR.mem⟩
 have hk:=hev fun v' σ'=>if v'=v∧σ'={τ:=[bx0,bx1],saved:=[],mem:=mem1}then some []else none;rw[AM ⟨rfl,rfl⟩]at hk;refine(Tc hC d g args _ _ _ hk _ _ w ρ cargs hRe hv).mono fun e w' ⟨cv,v',σ',ρ1,he,hR1,hV1,hk1⟩=>?_;split at hk1
 ·rename_i hh;obtain⟨rfl,hn⟩:=hh;obtain⟨ρ2,hR2⟩:=IQ hR1 [0,1];rw[hn]at hR2;have t0:V ρ2 mem1.length bx0 y0:=hR2.tmps.2 0 _ _ rfl rfl;have t1:V ρ2 mem1.length bx1 y1:=hR2.tmps.2 1 _ _ rfl rfl;refine⟨cv,ρ2,he,⟨hR.defers,dM hL0 hL1 z0 z1 t0 t1 hτ hR.tmps,Ze hL0 hL1 z0 z1 t0 t1 hs hR.saved,hR2.below,hR2.mem⟩,?_⟩;rw[hV1.plain1 hp];exact V.reflP hp
 ·cases hk1
end Go.Ev

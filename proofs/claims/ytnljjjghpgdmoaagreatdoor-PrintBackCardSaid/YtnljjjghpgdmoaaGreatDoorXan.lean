import Derived.Test.YtnljjjghpgdmoaaGreatDoorXam
import Derived.Deep.RegionHeld3
import Derived.Deep.AppendLies
import Derived.Maps.AppendAt
set_option linter.all false
namespace Go.Proofs.YtnljjjghpgdmoaaGreatDoor
open Go.Ev Go.Lib Go.RowKit
def nY(A:Nat->Int)(an:Nat)(P:Nat->Nat->Int)(pn:Nat)(c:Int):List UInt8:=Ir sSettle++(Ae sBalances++BR A an++[10])++F6 sPay P (fun _=>3) pn++Zn c
set_option maxHeartbeats 4000000 in
set_option maxRecDepth 1000000 in
theorem Uf(w:World)(c1 c2 c4 c5 c6 c7 c9 c10:Value)(pc rr ld cl:Int)(ga aa:Option Addr)(gn gc an ac gb goff ab ao:Nat)(P:Nat->Nat->Int)(A:Nat->Int)(ec:Int)
  (hchk:∀w',Below w.heap.size w w'->Calls Tryz.prog 10 #[.agg #[.int .u8 4,c1,c2,.int .u8 pc,c4,c5,c6,c7,.int .i64 rr,c9,c10,.int .i64 ld,.slice aa an ac,.slice ga gn gc,.int .u8 cl]] w' fun e w''=>e=.returned (.int .i64 ec)∧Below w'.heap.size w' w'')
  (hWd:∀w',Below w.heap.size w w'->Wd w')
  (hga:0<gn->ga=some ⟨gb,goff,none⟩) (hgb:0<gn->gb<w.heap.size) (hg:∀e,e<gn->∀i,i<3->w.cell? ⟨gb,goff+e*3+i,none⟩=some (.int .i64 (P e i)))
  (haa:0<an->aa=some ⟨ab,ao,none⟩∧ab<w.heap.size) (ha:∀j,j<an->w.cell? ⟨ab,ao+j,none⟩=some (.int .i64 (A j)))
  (hX:∀e j,iR (P e j)=true) (hA:∀j,iR (A j)=true) (hl:ec=0->gn<=1000∧an<=1000) (hc:ec=0->0<=pc∧pc<=255∧0<=cl∧cl<=255):
  Calls Tryz.prog 6 #[.agg #[.int .u8 4,c1,c2,.int .u8 pc,c4,c5,c6,c7,.int .i64 rr,c9,c10,.int .i64 ld,.slice aa an ac,.slice ga gn gc,.int .u8 cl]] w fun e w'=>e=.returned (.tuple #[.string (P9 ec (nY A an P gn (cl+pc))),.int .i64 (Me ec (nY A an P gn (cl+pc)))])∧Below w.heap.size w w':=by
 have mx:Tryz.prog.follows .mixedOrders=true:=mixed
 go_enter Tryz.func6,Tryz.ntmps6
 go_wp2_with (first|(go_at_call 10;refine(hchk _ ?_).mono ?_))
 ·exact(Below.refl _ w).alloc (AC _) _
 rintro e w1 ⟨rfl,hb1⟩;by_cases hec:ec=0
 rotate_left
 ·have hec2:(ec !=0)=true:=by simpa using hec
  go_wp2
  go_ret2
  unfold P9 Me;rw[hec2];exact⟨rfl,((Below.refl _ w).alloc (AC _) _).trans (hb1.mono (by simp))⟩
 ·obtain⟨hl1,hl3⟩:=hl hec;obtain⟨p0,p1,q0,q1⟩:=hc hec;subst hec;clear hl hc
  go_wp2
  have hb0:Below w.heap.size w w1:=((Below.refl _ w).alloc (AC _) _).trans (hb1.mono (Nat.le_of_lt (Be w _)));have hN:w.heap.size<w1.heap.size:=Nat.lt_of_lt_of_le (Be w _) hb1.size;have hbox:w1.heap[w.heap.size]? =some (.cells #[.int .u8 4,c1,c2,.int .u8 pc,c4,c5,c6,c7,.int .i64 rr,c9,c10,.int .i64 ld,.slice aa an ac,.slice ga gn gc,.int .u8 cl] 39 (0,0)):=by
   rw[hb1.block w.heap.size (Be w _)];exact BG w _
  obtain⟨w2,hw2⟩:∃w2,w2=w1.alloc (.cells #[.pointer none,.slice none 0 0] 68):=⟨_,rfl⟩;have hI0:WrI w2 w1.heap.size [] w2:=⟨Below.refl _ _,Lib.OthersKept.refl _ _ _,by rw[hw2];exact Lib.IsBuilderF.of (Lib.fresh_isBuilder 68 5 w1)⟩;have hb3:w1.heap.size<w2.heap.size:=by rw[hw2];exact Be w1 _
  have hb2:w1.heap.size<=w2.heap.size:=by rw[hw2];exact Nat.le_of_lt (Be w1 _)
  have hbel2:∀k,k<w1.heap.size->w2.heap[k]? =w1.heap[k]? :=fun k hk=>by rw[hw2];exact Below.heap_alloc w1 _ k hk
  have hbox2:∀v,Below w1.heap.size w2 v->v.heap[w.heap.size]? =some (.cells #[.int .u8 4,c1,c2,.int .u8 pc,c4,c5,c6,c7,.int .i64 rr,c9,c10,.int .i64 ld,.slice aa an ac,.slice ga gn gc,.int .u8 cl] 39 (0,0)):=fun v hv=>by
   rw[hv.block _ hN,hbel2 _ hN];exact hbox
  have hbv:∀v,Below w1.heap.size w2 v->Below w.heap.size w v:=fun v hv=>hb0.trans (((Below.refl _ w1).alloc (AC _) _).trans (hw2▸hv)|>.mono (by omega));have hW2:∀v,Below w1.heap.size w2 v->Wd v:=fun v hv=>hWd v (hbv v hv);rw[<-hw2];clear hw2 hbel2;generalize hbb:w1.heap.size=b at*
  obtain⟨Cq,hq1,hq2⟩:∃Cq:World->Prop,(∀v,Cq v->WrI w2 b [] v)∧∀v,WrI w2 b [] v->Cq v:=⟨fun v=>WrI w2 b [] v,fun _ h=>h,fun _ h=>h⟩;refine Bg (C:=Cq) 10 mx (by kernel_rfl) (hq2 w2.drew hI0.drew) ?_;have hq:Hid (∀v,Cq v->WrI w2 b [] v):=hq1;have hcall:∀v,Cq v->Calls Tryz.prog 20 #[] v fun e w'=>e=.returned (.agg #[.string sCake,.string sGoods,.string sRent,.string sSettle])∧Cq w':=fun v hv=>(NS (hq1 v hv) hb2).mono fun e w' ⟨he,h⟩=>⟨he,hq2 _ h⟩;have hcl:Hid (∀v,Cq v->Calls Tryz.prog 20 #[] v fun e w'=>e=.returned (.agg #[.string sCake,.string sGoods,.string sRent,.string sSettle])∧Cq w'):=hcall;have hld:Hid (∀v,Cq v->v.cell? ⟨w.heap.size,0,none⟩=some (.int .u8 4)):=fun v hv=>by rw[Lib.cell_of_heap (hbox2 v (hq1 v hv).bel)];rfl
  have hhg:Hid (∀e,e<gn->∀i,i<3->w.cell? ⟨gb,goff+e*3+i,none⟩=some (.int .i64 (P e i))):=hg;have hha:Hid (∀j,j<an->w.cell? ⟨ab,ao+j,none⟩=some (.int .i64 (A j))):=ha;clear hq1 hq2 hcall hg ha hchk;dsimp only[List.take,List.drop];refine wpQuiet_step (fun K hK=>?_)
  go_simp
  refine⟨_,fun v hv=>rfl,hK _ ?_⟩;clear hK K;refine wpQuiet_step (fun K hK=>?_)
  go_simp
  refine⟨_,fun v hv=>rfl,hK _ ?_⟩;clear hK K;refine wpQuiet_step (fun K hK=>?_)
  go_simp
  refine⟨_,fun v hv=>rfl,hK _ ?_⟩;clear hK K;refine wpQuiet_step (fun K hK=>?_)
  go_simp
  refine⟨.agg #[.string sCake,.string sGoods,.string sRent,.string sSettle],fun v hv=>(show∀v,Cq v->Calls Tryz.prog 20 #[] v fun e w'=>e=.returned (.agg #[.string sCake,.string sGoods,.string sRent,.string sSettle])∧Cq w' from hcl) v hv,hK _ ?_⟩;clear hK K;refine wpQuiet_step (fun K hK=>?_)
  go_simp
  refine⟨_,fun v hv=>rfl,hK _ ?_⟩;clear hK K;refine wpQuiet_step (fun K hK=>?_)
  go_simp
  refine⟨.int .u8 4,fun v hv=>?_,hK _ ?_⟩
  ·rw[(show∀v,Cq v->v.cell? ⟨w.heap.size,0,none⟩=some (.int .u8 4)from hld) v hv];exact⟨rfl,rfl⟩
  clear hK K;refine wpQuiet_step (fun K hK=>?_)
  go_simp
  refine⟨_,fun v hv=>rfl,hK _ ?_⟩;clear hK K;refine wpQuiet_step (fun K hK=>?_)
  go_simp
  refine⟨.string sSettle,fun v hv=>?_,hK _ ?_⟩
  ·rw[VH v];exact⟨rfl,rfl⟩
  clear hK K;refine wpQuiet_step (fun K hK=>?_)
  go_simp
  refine⟨.string (sDocument++sSettle),fun v hv=>?_,hK _ ?_⟩
  ·rw[AL (show¬9223372036854775807<9+sSettle.size by have:sSettle.size=6:=rfl;omega)];exact⟨rfl,rfl⟩
  clear hK K;refine wpQuiet_step (fun K hK=>?_)
  go_simp
  refine⟨.string (sDocument++sSettle++⟨#[10]⟩),fun v hv=>?_,hK _ ?_⟩
  ·rw[AL (show¬9223372036854775807<sDocument.size+sSettle.size+1 by have:sSettle.size=6:=rfl;have:sDocument.size=9:=rfl;omega)];exact⟨rfl,rfl⟩
  clear hK K;refine wpQuiet_nil ?_;intro w3 h3;have h3':WrI w2 b [] w3:=(show∀v,Cq v->WrI w2 b [] v from hq) w3 h3;have hsz:([]:List UInt8).length+(sDocument++sSettle++⟨#[10]⟩).size<=140737488355328:=by decide
  have hS:[]++Ae (sDocument++sSettle++⟨#[10]⟩)=Ir sSettle:=by rw[Ee,Ee];rfl
  generalize sDocument++sSettle++⟨#[10]⟩=S at*
  clear hq hcl hld h3
  go_wp2_with (first|(go_at_call 19;refine(NP h3' hb2 S hsz).mono ?_))
  rintro e w4 ⟨rfl,h4⟩;rw[hS]at h4;clear hS hsz h3';have f0:w4.cell? ⟨w.heap.size,0,none⟩=some (.int .u8 4):=by rw[Lib.cell_of_heap (hbox2 w4 h4.bel)];rfl
  have f12:w4.cell? ⟨w.heap.size,12,none⟩=some (.slice aa an ac):=by rw[Lib.cell_of_heap (hbox2 w4 h4.bel)];rfl
  have e1:0<an->aa=some ⟨ab,ao,none⟩:=fun h=>(haa h).1;have e2:0<an->ab<b:=fun h=>Nat.lt_trans (haa h).2 (by omega);have hold:∀v,Below b w2 v->∀p:Addr,p.block<w.heap.size->v.cell? p=w.cell? p:=fun v hv p hp=>(hbv v hv).cell hp;have hh1:Hid (∀v,Below b w2 v->∀p:Addr,p.block<w.heap.size->v.cell? p=w.cell? p):=hold;have hh2:Hid (∀v,Below b w2 v->v.heap[w.heap.size]? =some (.cells #[.int .u8 4,c1,c2,.int .u8 pc,c4,c5,c6,c7,.int .i64 rr,c9,c10,.int .i64 ld,.slice aa an ac,.slice ga gn gc,.int .u8 cl] 39 (0,0))):=hbox2;have e3:Hid (∀j,j<an->w2.cell? ⟨ab,ao+j,none⟩=some (.int .i64 (A j))):=fun j hj=>by
   rw[(show∀v,Below b w2 v->∀p:Addr,p.block<w.heap.size->v.cell? p=w.cell? p from hh1) w2 (Below.refl _ _) ⟨ab,ao+j,none⟩ (haa (by omega)).2];exact(show∀j,j<an->w.cell? ⟨ab,ao+j,none⟩=some (.int .i64 (A j))from hha) j hj
  have e4:(Ir sSettle).length+sBalances.size+an*22<=1000000000000:=by
   have h2:(Ir sSettle).length=16:=rfl;have h3:sBalances.size=8:=rfl;omega
  clear hold hbox2
  go_wp2_with (first|(go_at_call 22;refine(Iw h4 hW2 hb2 sBalances aa ab ao an ac A e1 hA e2 e3 e4).mono ?_))
  rintro e w5 ⟨rfl,h5⟩;clear e1 e2 e3 e4 f12 f0;have f13:w5.cell? ⟨w.heap.size,13,none⟩=some (.slice ga gn gc):=by rw[Lib.cell_of_heap ((show∀v,Below b w2 v->v.heap[w.heap.size]? =some (.cells #[.int .u8 4,c1,c2,.int .u8 pc,c4,c5,c6,c7,.int .i64 rr,c9,c10,.int .i64 ld,.slice aa an ac,.slice ga gn gc,.int .u8 cl] 39 (0,0))from hh2) w5 h5.bel)];rfl
  obtain⟨L5,hL5⟩:∃L5,L5=Ir sSettle++Ae sBalances++BR A an++[10]:=⟨_,rfl⟩;rw[<-hL5]at h5;have hLl:L5.length<=1000000:=by
   have h1:=Fv hA an;have h2:(Ir sSettle).length=16:=rfl;have h3:(Ae sBalances).length=8:=rfl;rw[hL5,AG,AG,AG,List.length_singleton];omega
  have hL5':Hid (L5=Ir sSettle++Ae sBalances++BR A an++[10]):=hL5;clear hL5
  go_wp2
  clear f13
  go_loopw [99] (fun i wr=>∃k:Nat,i=.int .i64 k∧k<=gn∧WrI w2 b (L5++F6 sPay P (fun _=>3) k) wr) (fun i _=>gn-(RowKit.intOf i).toNat)
  case atStart=>
   exact⟨0,rfl,Nat.zero_le _,by simpa [F6]using h5⟩
  case round=>
   obtain⟨k,rfl,hk,h6⟩:=hrel;by_cases hp:k<gn
   ·have ha':=hga (by omega);have hgb':=hgb (by omega);subst ha';have hd:Hid (∀i,i<3->wr.cell? ⟨gb,goff+k*3+i,none⟩=some (.int .i64 (P k i))):=fun i hi=>by
     rw[(show∀v,Below b w2 v->∀p:Addr,p.block<w.heap.size->v.cell? p=w.cell? p from hh1) wr h6.bel ⟨gb,goff+k*3+i,none⟩ hgb'];exact(show∀e,e<gn->∀i,i<3->w.cell? ⟨gb,goff+e*3+i,none⟩=some (.int .i64 (P e i))from hhg) k hp i hi
    have d0:wr.cell? ⟨gb,goff+k*3,none⟩=some (.int .i64 (P k 0)):=(show∀i,i<3->wr.cell? ⟨gb,goff+k*3+i,none⟩=some (.int .i64 (P k i))from hd) 0 (by omega);have d1:wr.cell? ⟨gb,goff+k*3+1,none⟩=some (.int .i64 (P k 1)):=(show∀i,i<3->wr.cell? ⟨gb,goff+k*3+i,none⟩=some (.int .i64 (P k i))from hd) 1 (by omega);have d2:wr.cell? ⟨gb,goff+k*3+2,none⟩=some (.int .i64 (P k 2)):=(show∀i,i<3->wr.cell? ⟨gb,goff+k*3+i,none⟩=some (.int .i64 (P k i))from hd) 2 (by omega);have h6a:=(h6.alloc hb2 (.cells #[.int .i64 (P k 0),.int .i64 (P k 1),.int .i64 (P k 2)] 78)).alloc hb2 (.cells #[.int .i64 (P k 0),.int .i64 (P k 1),.int .i64 (P k 2)] 3);have hs1:(wr.alloc (.cells #[.int .i64 (P k 0),.int .i64 (P k 1),.int .i64 (P k 2)] 78)).heap.size=wr.heap.size+1:=by
     show(wr.heap.push _).size=_;simp
    have h6n:Hid (((wr.alloc (.cells #[.int .i64 (P k 0),.int .i64 (P k 1),.int .i64 (P k 2)] 78)).alloc (.cells #[.int .i64 (P k 0),.int .i64 (P k 1),.int .i64 (P k 2)] 3)).heap[wr.heap.size+1]? =some (.cells #[.int .i64 (P k 0),.int .i64 (P k 1),.int .i64 (P k 2)] 3 (0,0))):=by
     have:=BG (wr.alloc (.cells #[.int .i64 (P k 0),.int .i64 (P k 1),.int .i64 (P k 2)] 78)) (.cells #[.int .i64 (P k 0),.int .i64 (P k 1),.int .i64 (P k 2)] 3);rw[hs1]at this;exact this
    have i4:wr.heap.size+1≠b:=by have:=h6.bel.size;omega
    have i2:Hid (∀j,j<3->(#[Value.int .i64 (P k 0),Value.int .i64 (P k 1),Value.int .i64 (P k 2)]:Array Value)[j]? =some (.int .i64 (P k j))):=fun j hj=>by
     match j,hj with
     |0,_=>rfl
     |1,_=>rfl
     |2,_=>rfl
    have i3:(L5++F6 sPay P (fun _=>3) k).length+sPay.size+3*22<=1000000000000:=by
     have h1:=Ie (word:=sPay) (by decide) hX k (n:=fun _=>3) (fun e he=>(by show(3:Nat)<=1000;omega));have h2:k*30000<=1000*30000:=AH _ (by omega);have h3:sPay.size=3:=rfl;rw[AG];omega
    clear hs1
    go_wp2_with (first|(go_at_call 22;refine(GZ h6a hW2 hb2 sPay (wr.heap.size+1) 3 3 (P k) #[.int .i64 (P k 0),.int .i64 (P k 1),.int .i64 (P k 2)] (0,0) (hX k) i4 h6n i2 i3).mono ?_))
    rintro e w7 rfl h7;clear h6n h6a i4 i2 i3
    go_wp2
    go_roundw
    case rel=>
     refine⟨k+1,by go_num,by omega,?_⟩;rw[show F6 sPay P (fun _=>3) (k+1)=F6 sPay P (fun _=>3) k++(Ae sPay++BR (P k) 3++[10])from rfl];simpa only[List.append_assoc]using h7
    case measure=>
     simp[RowKit.intOf];omega
   ·have hkn:k=gn:=by omega
    subst hkn;have hbx:Hid (∀v L,WrI w2 b L v->v.cell? ⟨w.heap.size,14,none⟩=some (.int .u8 cl)∧v.cell? ⟨w.heap.size,3,none⟩=some (.int .u8 pc)):=fun v L hv=>by
     rw[Lib.cell_of_heap ((show∀v,Below b w2 v->v.heap[w.heap.size]? =some (.cells #[.int .u8 4,c1,c2,.int .u8 pc,c4,c5,c6,c7,.int .i64 rr,c9,c10,.int .i64 ld,.slice aa an ac,.slice ga k gc,.int .u8 cl] 39 (0,0))from hh2) v hv.bel),Lib.cell_of_heap ((show∀v,Below b w2 v->v.heap[w.heap.size]? =some (.cells #[.int .u8 4,c1,c2,.int .u8 pc,c4,c5,c6,c7,.int .i64 rr,c9,c10,.int .i64 ld,.slice aa an ac,.slice ga k gc,.int .u8 cl] 39 (0,0))from hh2) v hv.bel)];exact⟨rfl,rfl⟩
    have i1:∀j:Nat,iR ((fun _:Nat=>cl+pc) j)=true:=fun j=>iR_iff.2 ⟨by dsimp only;omega,by dsimp only;omega⟩;have i2:Hid (∀j,j<1->(#[Value.int .i64 (cl+pc)]:Array Value)[j]? =some (.int .i64 ((fun _:Nat=>cl+pc) j))):=fun j hj=>by
     have:j=0:=by omega
     subst this;rfl
    obtain⟨L6,hL6⟩:∃L6,L6=L5++F6 sPay P (fun _=>3) k:=⟨_,rfl⟩;rw[<-hL6]at h6;have hT2:Hid (L6++Ae sClaims++BR (fun _=>cl+pc) 1++[10]=nY A an P k (cl+pc)):=by
     show _=_;rw[hL6,show L5=Ir sSettle++Ae sBalances++BR A an++[10]from hL5'];simp only[nY,Zn,List.append_assoc]
    have i3':L6.length+sClaims.size+1*22<=1000000000000:=by
     have h1:=Ie (word:=sPay) (by decide) hX k (n:=fun _=>3) (fun e he=>(by show(3:Nat)<=1000;omega));have h2:k*30000<=1000*30000:=AH _ (by omega);have h3:sClaims.size=6:=rfl;rw[hL6,AG];omega
    have f0:Hid (b<w2.heap.size):=hb3;clear hb3 hL6;obtain⟨f14,f3⟩:=(show∀v L,WrI w2 b L v->v.cell? ⟨w.heap.size,14,none⟩=some (.int .u8 cl)∧v.cell? ⟨w.heap.size,3,none⟩=some (.int .u8 pc)from hbx) wr _ h6;have i4:wr.heap.size≠b:=by have:=h6.bel.size;have h:b<w2.heap.size:=f0;omega
    have h6a:=h6.alloc hb2 (.cells #[.int .i64 (cl+pc)] 3);have h6n:Hid ((wr.alloc (.cells #[.int .i64 (cl+pc)] 3)).heap[wr.heap.size]? =some (.cells #[.int .i64 (cl+pc)] 3 (0,0))):=BG wr _
    go_wp2_with (first|(go_at_call 22;refine(GZ h6a hW2 hb2 sClaims wr.heap.size 1 1 (fun _=>cl+pc) #[.int .i64 (cl+pc)] (0,0) i1 i4 h6n i2 i3').mono ?_))
    rintro e w7 rfl h7;replace h7:WrI w2 b (L6++Ae sClaims++BR (fun _=>cl+pc) 1++[10]) w7:=by simpa only[List.append_assoc]using h7
    obtain⟨T,hT⟩:∃T,T=L6++Ae sClaims++BR (fun _=>cl+pc) 1++[10]:=⟨_,rfl⟩;rw[<-hT]at h7;have hT3:Hid (nY A an P k (cl+pc)=T):=by
     show _=_;rw[hT];exact(show L6++Ae sClaims++BR (fun _=>cl+pc) 1++[10]=nY A an P k (cl+pc)from hT2).symm
    have hne:T≠[]:=by rw[hT];simp
    have hbz:Below w.heap.size w w7:=hbv w7 h7.bel;clear hT hT2 f14 f3 h6 h6a h6n i1 i2 i3' i4 hbx
    go_wp2_with (first|(go_at_call 23;refine(Rq b b T _ h7.bld).mono ?_))
    rintro e w8 ⟨rfl,rfl⟩;have hfin:Hid (∀v,Below b w8 v->Below w.heap.size w v):=fun v hv=>hbz.trans (hv.mono (by omega));by_cases hbig:60000<T.length
    ·have hdb:decide (60000<T.length)=true:=A4 hbig;have hd2:Hid (decide (60000<T.length)=true):=hdb;clear hdb
     go_wp2
     go_ret2
     rw[show nY A an P k (cl+pc)=T from hT3];unfold P9 Me;rw[show decide (60000<T.length)=true from hd2];exact⟨rfl,hbz⟩
    ·have hd2:Hid (decide (60000<T.length)=false):=AB hbig
     go_wp2_with (first|(go_at_call 24;refine(NH b b T _ h7.bld hne).mono ?_))
     rintro e w9 ⟨rfl,h9⟩
     go_wp2
     go_ret2
     rw[show nY A an P k (cl+pc)=T from hT3];unfold P9 Me;rw[show decide (60000<T.length)=false from hd2];exact⟨rfl,(show∀v,Below b w8 v->Below w.heap.size w v from hfin) w9 h9⟩
end Go.Proofs.YtnljjjghpgdmoaaGreatDoor
namespace Go.Proofs.YtnljjjghpgdmoaaGreatDoor
open Go.Ev
set_option maxRecDepth 100000
structure Dc where
 k:Int
 ca:Row
 pi:Row
 pc:Int
 wo:Row
 gv:Row
 aa:Row
 fv:Row
 rr:Int
 lr:Row
 lp:Row
 ld:Int
 ba:Row
 pa:Row
 cl:Int
def Dc.D(x:Dc):D:=Tf x.k x.ca x.pi x.pc x.wo x.gv x.aa x.fv x.rr x.lr x.lp x.ld x.ba x.pa x.cl
def Hg:D->Option Dc
 |.agg [.v (.int .u8 k),.slice [.int .i64,.slice [.int .i64],.slice [.int .i64]] ca,.slice [.slice [.int .i64,.int .i64,.int .i64,.int .i64]] pi,.v (.int .u8 pc),.slice [.slice [.int .i64,.int .i64]] wo,.slice [.slice [.int .i64]] gv,.slice [.int .i64] aa,.slice [.slice [.int .i64]] fv,.v (.int .i64 rr),.slice [.int .i64] lr,.slice [.int .i64] lp,.v (.int .i64 ld),.slice [.int .i64] ba,.slice [.int .i64,.int .i64,.int .i64] pa,.v (.int .u8 cl)]=>some ⟨k,ca,pi,pc,wo,gv,aa,fv,rr,lr,lp,ld,ba,pa,cl⟩
 |_=>none
theorem EX{d:D}{x:Dc}(h:Hg d=some x):d=x.D:=by
 unfold Hg at h;split at h
 ·cases h;rfl
 ·cases h
def pb(o:Row)(k:Int):Row:=(w_ o 0 o.n).app (w_ ((Row.zeros 1).setI 0 0 k) 0 1)
def fin(o:Row):Row:=match o with|.nil=>.nil|.mk n I B S R=>w_ (.mk n I B S R) 0 n
def pT4(ba pa o:Row):OD:=br (decide ((ba.n:Int)>0)) (some [.slice [.int .u8] (fin (pb o 4))]) (br (decide ((pa.n:Int)>0)) (some [.slice [.int .u8] (fin (pb o 4))]) (some [.slice [.int .u8] (fin o)]))
def pT3(fv:Row)(rr:Int)(lr lp:Row)(ld:Int)(t:Row->OD)(o:Row):OD:=br (decide ((fv.n:Int)>0)) (t (pb o 3)) (br (rr !=0) (t (pb o 3)) (br (decide ((lr.n:Int)>0)) (t (pb o 3)) (br (decide ((lp.n:Int)>0)) (t (pb o 3)) (br (ld !=0) (t (pb o 3)) (t o)))))
def pT2(gv aa:Row)(t:Row->OD)(o:Row):OD:=br (decide ((gv.n:Int)>0)) (t (pb o 2)) (br (decide ((aa.n:Int)>0)) (t (pb o 2)) (t o))
def pT1(ca pi:Row)(pc:Int)(wo:Row)(t:Row->OD)(o:Row):OD:=br (decide ((ca.n:Int)>0)) (t (pb o 1)) (br (decide ((pi.n:Int)>0)) (t (pb o 1)) (br (decide ((wo.n:Int)>0)) (t (pb o 1)) (br (pc !=0) (t (pb o 1)) (t o))))
noncomputable def C0:Cx:=AU Tryz.prog fns [] []
theorem JP:Bi C0:=Aq enter mixed (fun p h=>by cases h) (fun l h=>by cases h)
theorem u29(k:Int)(ca pi:Row)(pc:Int)(wo gv aa fv:Row)(rr:Int)(lr lp:Row)(ld:Int)(ba pa:Row)(cl:Int):BZ C0 6 31 [Tf k ca pi pc wo gv aa fv rr lr lp ld ba pa cl]=pT1 ca pi pc wo (pT2 gv aa (pT3 fv rr lr lp ld (pT4 ba pa))) .nil:=by kernel_rfl
def fC(x:Dc):Bool:=decide ((x.ca.n:Int)>0)||(decide ((x.pi.n:Int)>0)||(decide ((x.wo.n:Int)>0)||x.pc !=0))
def fG(x:Dc):Bool:=decide ((x.gv.n:Int)>0)||decide ((x.aa.n:Int)>0)
def fR(x:Dc):Bool:=decide ((x.fv.n:Int)>0)||(x.rr !=0||(decide ((x.lr.n:Int)>0)||(decide ((x.lp.n:Int)>0)||x.ld !=0)))
def fS(x:Dc):Bool:=decide ((x.ba.n:Int)>0)||decide ((x.pa.n:Int)>0)
def paO(c g r s:Bool):Row:=
 let a:=bif c then pb .nil 1 else .nil
 let b:=bif g then pb a 2 else a
 let d:=bif r then pb b 3 else b
 bif s then pb d 4 else d
def SX(x:Dc):Row:=fin (paO (fC x) (fG x) (fR x) (fS x))
def Ae0:FD
 |[d]=>match Hg d with
  |some x=>some (true,[.slice [.int .u8] (SX x)])
  |none=>none
 |_=>none
theorem den_par:Den Tryz.prog 31 Ae0:=Ag JP fun ds rs h=>by
 unfold Ae0 at h;split at h
 ·split at h
  ·rename_i x hx;simp only[A5,A6,true_and]at h;subst h;rw[EX hx];refine(u29 x.k x.ca x.pi x.pc x.wo x.gv x.aa x.fv x.rr x.lr x.lp x.ld x.ba x.pa x.cl).trans ?_;unfold pT1 pT2 pT3 pT4 SX fC fG fR fS paO;simp only[<-La];generalize(decide ((x.ca.n:Int)>0)||(decide ((x.pi.n:Int)>0)||(decide ((x.wo.n:Int)>0)||x.pc !=0)))=f1;generalize(decide ((x.gv.n:Int)>0)||decide ((x.aa.n:Int)>0))=f2;generalize(decide ((x.fv.n:Int)>0)||(x.rr !=0||(decide ((x.lr.n:Int)>0)||(decide ((x.lp.n:Int)>0)||x.ld !=0))))=f3;generalize(decide ((x.ba.n:Int)>0)||decide ((x.pa.n:Int)>0))=f4;cases f1<;>cases f2<;>cases f3<;>cases f4<;>rfl
  ·cases h
 ·cases h
def Qd(k:Int)(x:Dc):Bool:=Ap (fun j=>(SX x).I j 0 !=k) (SX x).n 0
theorem RJ(k:Int)(x:Dc):Qd k x=((fC x&&(1:Int) !=k)||((fG x&&(2:Int) !=k)||((fR x&&(3:Int) !=k)||((fS x&&(4:Int) !=k)||false)))):=by
 unfold Qd SX;cases fC x<;>cases fG x<;>cases fR x<;>cases fS x<;>rfl
def FGu(c:Row->Bool)(o:Row->Row)(e:Row->Int):FD
 |[.slice [.int .i64] b]=>some (c b,[.slice [.int .i64] (o b),.v (i64 (e b))])
 |_=>none
def FLc(e:Int->Row->Int):FD
 |[.v (.int .i64 n),.slice [.int .i64,.int .i64,.int .i64] b]=>some (true,[.v (i64 (e n b))])
 |_=>none
structure Ck where
 sc:Row->Int->Bool
 sb:Row->Int->Bool
 pcc:Row->Row->Bool
 pcE:Row->Row->Int
 rcc:Row->Int->Bool
 rcE:Row->Int->Int
 rvc:Row->Int->Row->Row->Int->Bool
 rvE:Row->Int->Row->Row->Int->Int
 guc:Row->Bool
 guO:Row->Row
 guE:Row->Int
 lcE:Int->Row->Int
def Ab8:Ed:={τ:=pu 1++[.v (.c (.pointer (some ⟨0,0,some 0⟩)))]++pu 24++[.v (.sl 1),.v (.int .i64),.v (.int .i64)]++pu 84,saved:=[[]],mem:=[.box [.v (.int .u8),.v (.sl 2),.v (.sl 3),.v (.int .u8),.v (.sl 4),.v (.sl 5),.v (.sl 6),.v (.sl 7),.v (.int .i64),.v (.sl 8),.v (.sl 9),.v (.int .i64),.v (.sl 10),.v (.sl 11),.v (.int .u8)],.row [.int .u8] true,.row [.int .i64,.slice [.int .i64],.slice [.int .i64]] false,.row [.slice [.int .i64,.int .i64,.int .i64,.int .i64]] false,.row [.slice [.int .i64,.int .i64]] false,.row [.slice [.int .i64]] false,.row [.int .i64] false,.row [.slice [.int .i64]] false,.row [.int .i64] false,.row [.int .i64] false,.row [.int .i64] false,.row [.int .i64,.int .i64,.int .i64] false]}
structure A_l13 where
 n:Nat
 len:Int
 j:Int
 k:Int
 can:Nat
 pin:Nat
 pc:Int
 won:Nat
 gvn:Nat
 aan:Nat
 fvn:Nat
 rr:Int
 lrn:Nat
 lpn:Nat
 ld:Int
 ban:Nat
 pan:Nat
 cl:Int
 p:Row
 ca:Row
 pi:Row
 wo:Row
 gv:Row
 aa:Row
 fv:Row
 lr:Row
 lp:Row
 ba:Row
 pa:Row
def ZR(its:List It):Option A_l13:=match its with|[.n n,.i len,.i j,.i k,.n can,.n pin,.i pc,.n won,.n gvn,.n aan,.n fvn,.i rr,.n lrn,.n lpn,.i ld,.n ban,.n pan,.i cl,.r p,.r ca,.r pi,.r wo,.r gv,.r aa,.r fv,.r lr,.r lp,.r ba,.r pa]=>some ⟨n,len,j,k,can,pin,pc,won,gvn,aan,fvn,rr,lrn,lpn,ld,ban,pan,cl,p,ca,pi,wo,gv,aa,fv,lr,lp,ba,pa⟩|_=>none
def U1(x:A_l13):Bool:=x.j=0∧x.len=x.n∧x.n<=1000
def c_l13_iff{x:A_l13}:=@BC _ U1 _ _ rfl x
def l13:ScanL A_l13:=⟨10,4,[1,26,27,28],[1,2],Ab8,ZR,fun x j=>[.n x.n,.i (x.n:Int),.i (j:Int),.i x.k,.n x.can,.n x.pin,.i x.pc,.n x.won,.n x.gvn,.n x.aan,.n x.fvn,.i x.rr,.n x.lrn,.n x.lpn,.i x.ld,.n x.ban,.n x.pan,.i x.cl,.r x.p,.r x.ca,.r x.pi,.r x.wo,.r x.gv,.r x.aa,.r x.fv,.r x.lr,.r x.lp,.r x.ba,.r x.pa],fun x=>x.n,U1,fun x j=>x.p.I j 0 !=x.k,fun x j K=>K .ret ⟨us 1++[.pointer (some ⟨0,0,some 0⟩),i64 8]++us 110,[[]],[some (.box [.int .u8 x.k,S_ 1 0 x.can,S_ 2 0 x.pin,.int .u8 x.pc,S_ 3 0 x.won,S_ 4 0 x.gvn,S_ 5 0 x.aan,S_ 6 0 x.fvn,i64 x.rr,S_ 7 0 x.lrn,S_ 8 0 x.lpn,i64 x.ld,S_ 9 0 x.ban,S_ 10 0 x.pan,.int .u8 x.cl]),some (.row [.int .i64,.slice [.int .i64],.slice [.int .i64]] false x.ca),some (.row [.slice [.int .i64,.int .i64,.int .i64,.int .i64]] false x.pi),some (.row [.slice [.int .i64,.int .i64]] false x.wo),some (.row [.slice [.int .i64]] false x.gv),some (.row [.int .i64] false x.aa),some (.row [.slice [.int .i64]] false x.fv),some (.row [.int .i64] false x.lr),some (.row [.int .i64] false x.lp),some (.row [.int .i64] false x.ba),some (.row [.int .i64,.int .i64,.int .i64] false x.pa)]⟩,fun x K=>K (.exit 0) ⟨us 1++[.pointer (some ⟨0,0,some 0⟩)]++us 111,[[]],[some (.box [.int .u8 x.k,S_ 1 0 x.can,S_ 2 0 x.pin,.int .u8 x.pc,S_ 3 0 x.won,S_ 4 0 x.gvn,S_ 5 0 x.aan,S_ 6 0 x.fvn,i64 x.rr,S_ 7 0 x.lrn,S_ 8 0 x.lpn,i64 x.ld,S_ 9 0 x.ban,S_ 10 0 x.pan,.int .u8 x.cl]),some (.row [.int .i64,.slice [.int .i64],.slice [.int .i64]] false x.ca),some (.row [.slice [.int .i64,.int .i64,.int .i64,.int .i64]] false x.pi),some (.row [.slice [.int .i64,.int .i64]] false x.wo),some (.row [.slice [.int .i64]] false x.gv),some (.row [.int .i64] false x.aa),some (.row [.slice [.int .i64]] false x.fv),some (.row [.int .i64] false x.lr),some (.row [.int .i64] false x.lp),some (.row [.int .i64] false x.ba),some (.row [.int .i64,.int .i64,.int .i64] false x.pa)]⟩⟩
noncomputable def C13(sc sb:Row->Int->Bool)(pcc:Row->Row->Bool)(pcE:Row->Row->Int)(rcc:Row->Int->Bool)(rcE:Row->Int->Int)(rvc:Row->Int->Row->Row->Int->Bool)(rvE:Row->Int->Row->Row->Int->Int)(guc:Row->Bool)(guO:Row->Row)(guE:Row->Int)(lcE:Int->Row->Int):Cx:=AU Tryz.prog fns [(33,FSq sc sb),(32,FPc pcc pcE),(37,FRc rcc rcE),(38,FRv rvc rvE),(39,FGu guc guO guE),(40,FLc lcE),(35,Fchk),(36,wI),(34,Acv),(31,Ae0)] [l13.C]
theorem xN(sc sb:Row->Int->Bool)(pcc:Row->Row->Bool)(pcE:Row->Row->Int)(rcc:Row->Int->Bool)(rcE:Row->Int->Int)(rvc:Row->Int->Row->Row->Int->Bool)(rvE:Row->Int->Row->Row->Int->Int)(guc:Row->Bool)(guO:Row->Row)(guE:Row->Int)(lcE:Int->Row->Int)(R:St->OD)(K:X->St->OD)(q n:Nat)(len j k:Int)(can pin:Nat)(pc:Int)(won gvn aan fvn:Nat)(rr:Int)(lrn lpn:Nat)(ld:Int)(ban pan:Nat)(cl:Int)(p ca pi wo gv aa fv lr lp ba pa:Row):Ar (C13 sc sb pcc pcE rcc rcE rvc rvE guc guO guE lcE) 10 4 q (bst Ab8 [.n n,.i len,.i j,.i k,.n can,.n pin,.i pc,.n won,.n gvn,.n aan,.n fvn,.i rr,.n lrn,.n lpn,.i ld,.n ban,.n pan,.i cl,.r p,.r ca,.r pi,.r wo,.r gv,.r aa,.r fv,.r lr,.r lp,.r ba,.r pa]) (BI [1,26,27,28] (some [1,2]) R K)=br (j<len) (br (0<=j&&j<(n:Int)) (br (p.I (0+j.toNat) 0 !=k) (K .ret ⟨us 1++[.pointer (some ⟨0,0,some 0⟩),i64 8]++us 110,[[]],[some (.box [.int .u8 k,S_ 1 0 can,S_ 2 0 pin,.int .u8 pc,S_ 3 0 won,S_ 4 0 gvn,S_ 5 0 aan,S_ 6 0 fvn,i64 rr,S_ 7 0 lrn,S_ 8 0 lpn,i64 ld,S_ 9 0 ban,S_ 10 0 pan,.int .u8 cl]),some (.row [.int .i64,.slice [.int .i64],.slice [.int .i64]] false ca),some (.row [.slice [.int .i64,.int .i64,.int .i64,.int .i64]] false pi),some (.row [.slice [.int .i64,.int .i64]] false wo),some (.row [.slice [.int .i64]] false gv),some (.row [.int .i64] false aa),some (.row [.slice [.int .i64]] false fv),some (.row [.int .i64] false lr),some (.row [.int .i64] false lp),some (.row [.int .i64] false ba),some (.row [.int .i64,.int .i64,.int .i64] false pa)]⟩) (R ⟨us 1++[.pointer (some ⟨0,0,some 0⟩)]++us 24++[S_ 1 0 n,i64 len,i64 (IntKind.i64.wrap (j+1))]++us 84,[[]],[some (.box [.int .u8 k,S_ 2 0 can,S_ 3 0 pin,.int .u8 pc,S_ 4 0 won,S_ 5 0 gvn,S_ 6 0 aan,S_ 7 0 fvn,i64 rr,S_ 8 0 lrn,S_ 9 0 lpn,i64 ld,S_ 10 0 ban,S_ 11 0 pan,.int .u8 cl]),some (.row [.int .u8] true p),some (.row [.int .i64,.slice [.int .i64],.slice [.int .i64]] false ca),some (.row [.slice [.int .i64,.int .i64,.int .i64,.int .i64]] false pi),some (.row [.slice [.int .i64,.int .i64]] false wo),some (.row [.slice [.int .i64]] false gv),some (.row [.int .i64] false aa),some (.row [.slice [.int .i64]] false fv),some (.row [.int .i64] false lr),some (.row [.int .i64] false lp),some (.row [.int .i64] false ba),some (.row [.int .i64,.int .i64,.int .i64] false pa)]⟩)) none) (K (.exit 0) ⟨us 1++[.pointer (some ⟨0,0,some 0⟩)]++us 111,[[]],[some (.box [.int .u8 k,S_ 1 0 can,S_ 2 0 pin,.int .u8 pc,S_ 3 0 won,S_ 4 0 gvn,S_ 5 0 aan,S_ 6 0 fvn,i64 rr,S_ 7 0 lrn,S_ 8 0 lpn,i64 ld,S_ 9 0 ban,S_ 10 0 pan,.int .u8 cl]),some (.row [.int .i64,.slice [.int .i64],.slice [.int .i64]] false ca),some (.row [.slice [.int .i64,.int .i64,.int .i64,.int .i64]] false pi),some (.row [.slice [.int .i64,.int .i64]] false wo),some (.row [.slice [.int .i64]] false gv),some (.row [.int .i64] false aa),some (.row [.slice [.int .i64]] false fv),some (.row [.int .i64] false lr),some (.row [.int .i64] false lp),some (.row [.int .i64] false ba),some (.row [.int .i64,.int .i64,.int .i64] false pa)]⟩):=by kernel_rfl
theorem u13(sc sb:Row->Int->Bool)(pcc:Row->Row->Bool)(pcE:Row->Row->Int)(rcc:Row->Int->Bool)(rcE:Row->Int->Int)(rvc:Row->Int->Row->Row->Int->Bool)(rvE:Row->Int->Row->Row->Int->Int)(guc:Row->Bool)(guO:Row->Row)(guE:Row->Int)(lcE:Int->Row->Int)(k:Int)(ca pi:Row)(pc:Int)(wo gv aa fv:Row)(rr:Int)(lr lp:Row)(ld:Int)(ba pa:Row)(cl:Int):BZ (C13 sc sb pcc pcE rcc rcE rvc rvE guc guO guE lcE) 6 10 [Tf k ca pi pc wo gv aa fv rr lr lp ld ba pa cl]=br (k<1) (some [.v (i64 8)]) (br (k>4) (some [.v (i64 8)]) (br (k==1) (br (cl !=0) (some [.v (i64 8)]) (br (U1 (⟨(SX (⟨k,w_ ca 0 ca.n,w_ pi 0 pi.n,pc,w_ wo 0 wo.n,w_ gv 0 gv.n,w_ aa 0 aa.n,w_ fv 0 fv.n,rr,w_ lr 0 lr.n,w_ lp 0 lp.n,ld,w_ ba 0 ba.n,w_ pa 0 pa.n,cl⟩:Dc)).n,(↑(SX (⟨k,w_ ca 0 ca.n,w_ pi 0 pi.n,pc,w_ wo 0 wo.n,w_ gv 0 gv.n,w_ aa 0 aa.n,w_ fv 0 fv.n,rr,w_ lr 0 lr.n,w_ lp 0 lp.n,ld,w_ ba 0 ba.n,w_ pa 0 pa.n,cl⟩:Dc)).n:Int),0,k,ca.n,pi.n,pc,wo.n,gv.n,aa.n,fv.n,rr,lr.n,lp.n,ld,ba.n,pa.n,cl,SX (⟨k,w_ ca 0 ca.n,w_ pi 0 pi.n,pc,w_ wo 0 wo.n,w_ gv 0 gv.n,w_ aa 0 aa.n,w_ fv 0 fv.n,rr,w_ lr 0 lr.n,w_ lp 0 lp.n,ld,w_ ba 0 ba.n,w_ pa 0 pa.n,cl⟩:Dc),ca,pi,wo,gv,aa,fv,lr,lp,ba,pa⟩:A_l13)) (br (Ap (fun j=>(SX (⟨k,w_ ca 0 ca.n,w_ pi 0 pi.n,pc,w_ wo 0 wo.n,w_ gv 0 gv.n,w_ aa 0 aa.n,w_ fv 0 fv.n,rr,w_ lr 0 lr.n,w_ lp 0 lp.n,ld,w_ ba 0 ba.n,w_ pa 0 pa.n,cl⟩:Dc)).I j 0 !=k) (SX (⟨k,w_ ca 0 ca.n,w_ pi 0 pi.n,pc,w_ wo 0 wo.n,w_ gv 0 gv.n,w_ aa 0 aa.n,w_ fv 0 fv.n,rr,w_ lr 0 lr.n,w_ lp 0 lp.n,ld,w_ ba 0 ba.n,w_ pa 0 pa.n,cl⟩:Dc)).n 0) (some [.v (i64 8)]) (br (k==1) (br (pcc (w_ ca 0 ca.n) (w_ pi 0 pi.n)) (br (pc<=31) (br (sc (w_ wo 0 wo.n) (ca.n:Int)) (br (pcE (w_ ca 0 ca.n) (w_ pi 0 pi.n)==0) (br (!sb (w_ wo 0 wo.n) (ca.n:Int)) (some [.v (i64 8)]) (some [.v (i64 (pcE (w_ ca 0 ca.n) (w_ pi 0 pi.n)))])) (some [.v (i64 (pcE (w_ ca 0 ca.n) (w_ pi 0 pi.n)))])) none) (br (pcE (w_ ca 0 ca.n) (w_ pi 0 pi.n)==0) (some [.v (i64 8)]) (some [.v (i64 (pcE (w_ ca 0 ca.n) (w_ pi 0 pi.n)))]))) none) (br (k==2) (br ((w_ gv 0 gv.n).n<=1000000) (br (decide ((w_ gv 0 gv.n).n<=1000000∧(w_ aa 0 aa.n).n<=1000000)) (br (Ef (w_ (((Row.zeros 2).setI 0 0 (chkE (w_ gv 0 gv.n))).setI 1 0 (AZ (w_ gv 0 gv.n) (w_ aa 0 aa.n))) 0 2)==0) (br (!decide (cl<=31)) (some [.v (i64 8)]) (some [.v (i64 (Ef (w_ (((Row.zeros 2).setI 0 0 (chkE (w_ gv 0 gv.n))).setI 1 0 (AZ (w_ gv 0 gv.n) (w_ aa 0 aa.n))) 0 2)))])) (some [.v (i64 (Ef (w_ (((Row.zeros 2).setI 0 0 (chkE (w_ gv 0 gv.n))).setI 1 0 (AZ (w_ gv 0 gv.n) (w_ aa 0 aa.n))) 0 2)))])) none) none) (br (k==3) (br (rcc (w_ fv 0 fv.n) rr) (br (rvc (w_ fv 0 fv.n) rr (w_ lr 0 lr.n) (w_ lp 0 lp.n) ld) (br (Ef (w_ (((Row.zeros 2).setI 0 0 (rcE (w_ fv 0 fv.n) rr)).setI 1 0 (rvE (w_ fv 0 fv.n) rr (w_ lr 0 lr.n) (w_ lp 0 lp.n) ld)) 0 2)==0) (br (!decide (cl<=3)) (some [.v (i64 8)]) (some [.v (i64 (Ef (w_ (((Row.zeros 2).setI 0 0 (rcE (w_ fv 0 fv.n) rr)).setI 1 0 (rvE (w_ fv 0 fv.n) rr (w_ lr 0 lr.n) (w_ lp 0 lp.n) ld)) 0 2)))])) (some [.v (i64 (Ef (w_ (((Row.zeros 2).setI 0 0 (rcE (w_ fv 0 fv.n) rr)).setI 1 0 (rvE (w_ fv 0 fv.n) rr (w_ lr 0 lr.n) (w_ lp 0 lp.n) ld)) 0 2)))])) none) none) (br (k==4) (br (guc (w_ ba 0 ba.n)) (br (Ef (w_ (((Row.zeros 2).setI 0 0 (guE (w_ ba 0 ba.n))).setI 1 0 (lcE (ba.n:Int) (w_ pa 0 pa.n))) 0 2)==0) (br (!decide (cl<=3)) (some [.v (i64 8)]) (some [.v (i64 (Ef (w_ (((Row.zeros 2).setI 0 0 (guE (w_ ba 0 ba.n))).setI 1 0 (lcE (ba.n:Int) (w_ pa 0 pa.n))) 0 2)))])) (some [.v (i64 (Ef (w_ (((Row.zeros 2).setI 0 0 (guE (w_ ba 0 ba.n))).setI 1 0 (lcE (ba.n:Int) (w_ pa 0 pa.n))) 0 2)))])) none) (br (!decide (cl<=3)) (some [.v (i64 8)]) (some [.v (i64 0)]))))))) none)) (br (U1 (⟨(SX (⟨k,w_ ca 0 ca.n,w_ pi 0 pi.n,pc,w_ wo 0 wo.n,w_ gv 0 gv.n,w_ aa 0 aa.n,w_ fv 0 fv.n,rr,w_ lr 0 lr.n,w_ lp 0 lp.n,ld,w_ ba 0 ba.n,w_ pa 0 pa.n,cl⟩:Dc)).n,(↑(SX (⟨k,w_ ca 0 ca.n,w_ pi 0 pi.n,pc,w_ wo 0 wo.n,w_ gv 0 gv.n,w_ aa 0 aa.n,w_ fv 0 fv.n,rr,w_ lr 0 lr.n,w_ lp 0 lp.n,ld,w_ ba 0 ba.n,w_ pa 0 pa.n,cl⟩:Dc)).n:Int),0,k,ca.n,pi.n,pc,wo.n,gv.n,aa.n,fv.n,rr,lr.n,lp.n,ld,ba.n,pa.n,cl,SX (⟨k,w_ ca 0 ca.n,w_ pi 0 pi.n,pc,w_ wo 0 wo.n,w_ gv 0 gv.n,w_ aa 0 aa.n,w_ fv 0 fv.n,rr,w_ lr 0 lr.n,w_ lp 0 lp.n,ld,w_ ba 0 ba.n,w_ pa 0 pa.n,cl⟩:Dc),ca,pi,wo,gv,aa,fv,lr,lp,ba,pa⟩:A_l13)) (br (Ap (fun j=>(SX (⟨k,w_ ca 0 ca.n,w_ pi 0 pi.n,pc,w_ wo 0 wo.n,w_ gv 0 gv.n,w_ aa 0 aa.n,w_ fv 0 fv.n,rr,w_ lr 0 lr.n,w_ lp 0 lp.n,ld,w_ ba 0 ba.n,w_ pa 0 pa.n,cl⟩:Dc)).I j 0 !=k) (SX (⟨k,w_ ca 0 ca.n,w_ pi 0 pi.n,pc,w_ wo 0 wo.n,w_ gv 0 gv.n,w_ aa 0 aa.n,w_ fv 0 fv.n,rr,w_ lr 0 lr.n,w_ lp 0 lp.n,ld,w_ ba 0 ba.n,w_ pa 0 pa.n,cl⟩:Dc)).n 0) (some [.v (i64 8)]) (br (k==1) (br (pcc (w_ ca 0 ca.n) (w_ pi 0 pi.n)) (br (pc<=31) (br (sc (w_ wo 0 wo.n) (ca.n:Int)) (br (pcE (w_ ca 0 ca.n) (w_ pi 0 pi.n)==0) (br (!sb (w_ wo 0 wo.n) (ca.n:Int)) (some [.v (i64 8)]) (some [.v (i64 (pcE (w_ ca 0 ca.n) (w_ pi 0 pi.n)))])) (some [.v (i64 (pcE (w_ ca 0 ca.n) (w_ pi 0 pi.n)))])) none) (br (pcE (w_ ca 0 ca.n) (w_ pi 0 pi.n)==0) (some [.v (i64 8)]) (some [.v (i64 (pcE (w_ ca 0 ca.n) (w_ pi 0 pi.n)))]))) none) (br (k==2) (br ((w_ gv 0 gv.n).n<=1000000) (br (decide ((w_ gv 0 gv.n).n<=1000000∧(w_ aa 0 aa.n).n<=1000000)) (br (Ef (w_ (((Row.zeros 2).setI 0 0 (chkE (w_ gv 0 gv.n))).setI 1 0 (AZ (w_ gv 0 gv.n) (w_ aa 0 aa.n))) 0 2)==0) (br (!decide (cl<=31)) (some [.v (i64 8)]) (some [.v (i64 (Ef (w_ (((Row.zeros 2).setI 0 0 (chkE (w_ gv 0 gv.n))).setI 1 0 (AZ (w_ gv 0 gv.n) (w_ aa 0 aa.n))) 0 2)))])) (some [.v (i64 (Ef (w_ (((Row.zeros 2).setI 0 0 (chkE (w_ gv 0 gv.n))).setI 1 0 (AZ (w_ gv 0 gv.n) (w_ aa 0 aa.n))) 0 2)))])) none) none) (br (k==3) (br (rcc (w_ fv 0 fv.n) rr) (br (rvc (w_ fv 0 fv.n) rr (w_ lr 0 lr.n) (w_ lp 0 lp.n) ld) (br (Ef (w_ (((Row.zeros 2).setI 0 0 (rcE (w_ fv 0 fv.n) rr)).setI 1 0 (rvE (w_ fv 0 fv.n) rr (w_ lr 0 lr.n) (w_ lp 0 lp.n) ld)) 0 2)==0) (br (!decide (cl<=3)) (some [.v (i64 8)]) (some [.v (i64 (Ef (w_ (((Row.zeros 2).setI 0 0 (rcE (w_ fv 0 fv.n) rr)).setI 1 0 (rvE (w_ fv 0 fv.n) rr (w_ lr 0 lr.n) (w_ lp 0 lp.n) ld)) 0 2)))])) (some [.v (i64 (Ef (w_ (((Row.zeros 2).setI 0 0 (rcE (w_ fv 0 fv.n) rr)).setI 1 0 (rvE (w_ fv 0 fv.n) rr (w_ lr 0 lr.n) (w_ lp 0 lp.n) ld)) 0 2)))])) none) none) (br (k==4) (br (guc (w_ ba 0 ba.n)) (br (Ef (w_ (((Row.zeros 2).setI 0 0 (guE (w_ ba 0 ba.n))).setI 1 0 (lcE (ba.n:Int) (w_ pa 0 pa.n))) 0 2)==0) (br (!decide (cl<=3)) (some [.v (i64 8)]) (some [.v (i64 (Ef (w_ (((Row.zeros 2).setI 0 0 (guE (w_ ba 0 ba.n))).setI 1 0 (lcE (ba.n:Int) (w_ pa 0 pa.n))) 0 2)))])) (some [.v (i64 (Ef (w_ (((Row.zeros 2).setI 0 0 (guE (w_ ba 0 ba.n))).setI 1 0 (lcE (ba.n:Int) (w_ pa 0 pa.n))) 0 2)))])) none) (br (!decide (cl<=3)) (some [.v (i64 8)]) (some [.v (i64 0)]))))))) none))):=by kernel_rfl
theorem Acj(sc sb:Row->Int->Bool)(pcc:Row->Row->Bool)(pcE:Row->Row->Int)(rcc:Row->Int->Bool)(rcE:Row->Int->Int)(rvc:Row->Int->Row->Row->Int->Bool)(rvE:Row->Int->Row->Row->Int->Int)(guc:Row->Bool)(guO:Row->Row)(guE:Row->Int)(lcE:Int->Row->Int):Ai (C13 sc sb pcc pcE rcc rcE rvc rvE guc guO guE lcE) l13.C:=l13.ok (by kernel_rfl)
 (fun its x h hc=>by
  replace h:ZR its=some x:=h;unfold ZR at h;split at h
  ·cases h;obtain⟨h1,h2,h3⟩:=c_l13_iff.1 hc;dsimp only at h1 h2;subst h1 h2;rfl
  ·cases h)
 (fun x hc=>by have:=c_l13_iff.1 hc;show x.n<18446744073709551616;omega)
 (fun q ⟨n,len0,j0,k,can,pin,pc,won,gvn,aan,fvn,rr,lrn,lpn,ld,ban,pan,cl,p,ca,pi,wo,gv,aa,fv,lr,lp,ba,pa⟩ j hc hi R K=>by
  obtain⟨h1,h2,h3⟩:=c_l13_iff.1 hc;dsimp only at*
  replace hi:j<n:=hi;refine(xN sc sb pcc pcE rcc rcE rvc rvE guc guO guE lcE R K q n ((n:Int)) ((j:Int)) k can pin pc won gvn aan fvn rr lrn lpn ld ban pan cl p ca pi wo gv aa fv lr lp ba pa).trans ?_;rw[A9,AE j,gd j n hi,Fe j n hi,FH (by omega)];rfl)
 (fun q ⟨n,len0,j0,k,can,pin,pc,won,gvn,aan,fvn,rr,lrn,lpn,ld,ban,pan,cl,p,ca,pi,wo,gv,aa,fv,lr,lp,ba,pa⟩ hc R K=>by
  obtain⟨h1,h2,h3⟩:=c_l13_iff.1 hc;dsimp only at*
  refine(xN sc sb pcc pcE rcc rcE rvc rvE guc guO guE lcE R K q n ((n:Int)) ((n:Int)) k can pin pc won gvn aan fvn rr lrn lpn ld ban pan cl p ca pi wo gv aa fv lr lp ba pa).trans ?_;rw[F8 n];rfl)
theorem iY(a b:Int):Ef (w_ (((Row.zeros 2).setI 0 0 a).setI 1 0 b) 0 2)=bif a !=0 then a else b:=by
 have h0:(w_ (((Row.zeros 2).setI 0 0 a).setI 1 0 b) 0 2).I 0 0=a:=rfl;have h1:(w_ (((Row.zeros 2).setI 0 0 a).setI 1 0 b) 0 2).I 1 0=b:=rfl;have hn:(w_ (((Row.zeros 2).setI 0 0 a).setI 1 0 b) 0 2).n=2:=rfl;unfold Ef;rw[hn];generalize w_ (((Row.zeros 2).setI 0 0 a).setI 1 0 b) 0 2=r at h0 h1;show(bif (r.I 0 0 !=0)||((r.I 1 0 !=0)||false)then r.I (bif (r.I 0 0 !=0)then 0 else bif (r.I 1 0 !=0)then 1 else 2) 0 else 0)=_;rw[h0,h1];cases c0:a !=0
 ·cases c1:b !=0
  ·have:b=0:=by simpa using c1
   rw[this];rfl
  ·exact h1
 ·exact h0
def two(a b:Int):Int:=bif a !=0 then a else b
def Zj(e:Int)(ok:Bool):Int:=bif (e==0)&& !ok then 8 else e
def GK(x:Dc):Bool:=decide (x.k<1)||(decide (x.k>4)||(x.k==1&&x.cl !=0))
def ckE(v:Ck)(x:Dc):Int:=bif GK x||Qd x.k x then 8 else bif x.k==1 then Zj (v.pcE (Ad x.ca) (Ad x.pi)) (decide (x.pc<=31)&&v.sb (Ad x.wo) x.ca.n)else bif x.k==2 then Zj (two (chkE x.gv) (AZ x.gv x.aa)) (decide (x.cl<=31))else bif x.k==3 then Zj (two (v.rcE (Ad x.fv) x.rr) (v.rvE (Ad x.fv) x.rr (Ad x.lr) (Ad x.lp) x.ld)) (decide (x.cl<=3))else Zj (two (v.guE (Ad x.ba)) (v.lcE x.ba.n (Ad x.pa))) (decide (x.cl<=3))
def wO(v:Ck)(x:Dc):Bool:=GK x||(Qd x.k x||(bif x.k==1 then v.pcc (Ad x.ca) (Ad x.pi)&&(!decide (x.pc<=31)||v.sc (Ad x.wo) x.ca.n)else bif x.k==2 then decide (x.gv.n<=1000000∧x.aa.n<=1000000)else bif x.k==3 then v.rcc (Ad x.fv) x.rr&&v.rvc (Ad x.fv) x.rr (Ad x.lr) (Ad x.lp) x.ld else v.guc (Ad x.ba)))
def Aiv(v:Ck):FD
 |[d]=>match Hg d with
  |some x=>some (wO v x,[.v (i64 (ckE v x))])
  |none=>none
 |_=>none
structure Ck.Ok(v:Ck):Prop where
 sq:DenW Tryz.prog Wd 33 (FSq v.sc v.sb)
 pc:DenW Tryz.prog Wd 32 (FPc v.pcc v.pcE)
 rc:DenW Tryz.prog Wd 37 (FRc v.rcc v.rcE)
 rv:DenW Tryz.prog Wd 38 (FRv v.rvc v.rvE)
 gu:DenW Tryz.prog Wd 39 (FGu v.guc v.guO v.guE)
 lc:DenW Tryz.prog Wd 40 (FLc v.lcE)
theorem Abp{v:Ck}(hv:v.Ok):P8 (C13 v.sc v.sb v.pcc v.pcE v.rcc v.rcE v.rvc v.rvE v.guc v.guO v.guE v.lcE) Wd:=CP enter mixed (fun p h=>by
 simp only[A8,A7,or_false]at h;rcases h with rfl|rfl|rfl|rfl|rfl|rfl|rfl|rfl|rfl|rfl
 ·exact hv.sq
 ·exact hv.pc
 ·exact hv.rc
 ·exact hv.rv
 ·exact hv.gu
 ·exact hv.lc
 ·exact den_chk.at _
 ·exact den_val.at _
 ·exact den_fst.at _
 ·exact den_par.at _) (fun l h=>by
 simp only[A8,A7,or_false]at h;rcases h with rfl;exact Acj ..)
def ckA(v:Ck)(x:Dc):OD:=br (x.k==1) (br (v.pcc (Ad x.ca) (Ad x.pi)) (br (decide (x.pc<=31)) (br (v.sc (Ad x.wo) x.ca.n) (br (v.pcE (Ad x.ca) (Ad x.pi)==0) (br (!v.sb (Ad x.wo) x.ca.n) (some [.v (i64 8)]) (some [.v (i64 (v.pcE (Ad x.ca) (Ad x.pi)))])) (some [.v (i64 (v.pcE (Ad x.ca) (Ad x.pi)))])) none) (br (v.pcE (Ad x.ca) (Ad x.pi)==0) (some [.v (i64 8)]) (some [.v (i64 (v.pcE (Ad x.ca) (Ad x.pi)))]))) none) (br (x.k==2) (br (decide (x.gv.n<=1000000)) (br (decide (x.gv.n<=1000000∧x.aa.n<=1000000)) (br (Ef (w_ (((Row.zeros 2).setI 0 0 (chkE x.gv)).setI 1 0 (AZ x.gv x.aa)) 0 2)==0) (br (!decide (x.cl<=31)) (some [.v (i64 8)]) (some [.v (i64 (Ef (w_ (((Row.zeros 2).setI 0 0 (chkE x.gv)).setI 1 0 (AZ x.gv x.aa)) 0 2)))])) (some [.v (i64 (Ef (w_ (((Row.zeros 2).setI 0 0 (chkE x.gv)).setI 1 0 (AZ x.gv x.aa)) 0 2)))])) none) none) (br (x.k==3) (br (v.rcc (Ad x.fv) x.rr) (br (v.rvc (Ad x.fv) x.rr (Ad x.lr) (Ad x.lp) x.ld) (br (Ef (w_ (((Row.zeros 2).setI 0 0 (v.rcE (Ad x.fv) x.rr)).setI 1 0 (v.rvE (Ad x.fv) x.rr (Ad x.lr) (Ad x.lp) x.ld)) 0 2)==0) (br (!decide (x.cl<=3)) (some [.v (i64 8)]) (some [.v (i64 (Ef (w_ (((Row.zeros 2).setI 0 0 (v.rcE (Ad x.fv) x.rr)).setI 1 0 (v.rvE (Ad x.fv) x.rr (Ad x.lr) (Ad x.lp) x.ld)) 0 2)))])) (some [.v (i64 (Ef (w_ (((Row.zeros 2).setI 0 0 (v.rcE (Ad x.fv) x.rr)).setI 1 0 (v.rvE (Ad x.fv) x.rr (Ad x.lr) (Ad x.lp) x.ld)) 0 2)))])) none) none) (br (x.k==4) (br (v.guc (Ad x.ba)) (br (Ef (w_ (((Row.zeros 2).setI 0 0 (v.guE (Ad x.ba))).setI 1 0 (v.lcE (x.ba.n:Int) (Ad x.pa))) 0 2)==0) (br (!decide (x.cl<=3)) (some [.v (i64 8)]) (some [.v (i64 (Ef (w_ (((Row.zeros 2).setI 0 0 (v.guE (Ad x.ba))).setI 1 0 (v.lcE (x.ba.n:Int) (Ad x.pa))) 0 2)))])) (some [.v (i64 (Ef (w_ (((Row.zeros 2).setI 0 0 (v.guE (Ad x.ba))).setI 1 0 (v.lcE (x.ba.n:Int) (Ad x.pa))) 0 2)))])) none) (br (!decide (x.cl<=3)) (some [.v (i64 8)]) (some [.v (i64 0)])))))
theorem UJ(e:Int)(ok:Bool):br (e==0) (br (!ok) (some [D.v (i64 8)]) (some [D.v (i64 e)])) (some [D.v (i64 e)])=some [D.v (i64 (Zj e ok))]:=by
 unfold Zj;cases e==0<;>cases ok<;>rfl
theorem Aj3(x:Dc):(SX x).n<=4:=by
 unfold SX;cases fC x<;>cases fG x<;>cases fR x<;>cases fS x<;>decide
theorem Adj(v:Ck)(x:Dc)(h1:GK x=false)(h2:Qd x.k x=false)(hc:wO v x=true):ckA v x=some [.v (i64 (ckE v x))]:=by
 have hk:1<=x.k∧x.k<=4:=by
  unfold GK at h1;simp only[AI,decide_eq_false_iff_not]at h1;omega
 unfold wO at hc;rw[h1,h2,Bool.false_or,Bool.false_or]at hc;unfold ckE ckA;rw[h1,h2];simp only[iY];show _=some [D.v (i64 (bif x.k==1 then _ else _))];have:x.k=1∨x.k=2∨x.k=3∨x.k=4:=by omega
 rcases this with e|e|e|e<;>rw[e]at hc⊢
 ·replace hc:(v.pcc (Ad x.ca) (Ad x.pi)&&(!decide (x.pc<=31)||v.sc (Ad x.wo) x.ca.n))=true:=hc;simp only[A2]at hc;show br (v.pcc (Ad x.ca) (Ad x.pi)) _ _=some [D.v (i64 (Zj (v.pcE (Ad x.ca) (Ad x.pi)) (decide (x.pc<=31)&&v.sb (Ad x.wo) x.ca.n)))];rw[hc.1,Aa];cases c:decide (x.pc<=31)
  ·rw[Ac];exact UJ _ false
  ·have h3:v.sc (Ad x.wo) x.ca.n=true:=by have:=hc.2;rw[c]at this;exact this
   rw[Aa,h3,Aa];exact UJ _ _
 ·replace hc:decide (x.gv.n<=1000000∧x.aa.n<=1000000)=true:=hc;have h3:=AD hc;show br (decide (x.gv.n<=1000000)) (br (decide (x.gv.n<=1000000∧x.aa.n<=1000000)) _ none) none=_;rw[A4 h3.1,hc,Aa,Aa];exact UJ _ _
 ·replace hc:(v.rcc (Ad x.fv) x.rr&&v.rvc (Ad x.fv) x.rr (Ad x.lr) (Ad x.lp) x.ld)=true:=hc;simp only[A2]at hc;show br (v.rcc (Ad x.fv) x.rr) (br (v.rvc (Ad x.fv) x.rr (Ad x.lr) (Ad x.lp) x.ld) _ none) none=_;rw[hc.1,hc.2,Aa,Aa];exact UJ _ _
 ·replace hc:v.guc (Ad x.ba)=true:=hc;show br (v.guc (Ad x.ba)) _ none=_;rw[hc,Aa];exact UJ _ _
theorem Xd{v:Ck}(hv:v.Ok):DenW Tryz.prog Wd 10 (Aiv v):=DR (Abp hv) fun ds rs h=>by
 unfold Aiv at h;split at h
 ·split at h
  ·rename_i x hx;simp only[A5,A6]at h;obtain⟨hc,rfl⟩:=h;rw[EX hx];refine(u13 v.sc v.sb v.pcc v.pcE v.rcc v.rcE v.rvc v.rvE v.guc v.guO v.guE v.lcE x.k x.ca x.pi x.pc x.wo x.gv x.aa x.fv x.rr x.lr x.lp x.ld x.ba x.pa x.cl).trans ?_;have hl:∀y:A_l13,y.j=0->y.len=y.n->y.n<=1000->U1 y=true:=fun y h1 h2 h3=>c_l13_iff.2 ⟨h1,h2,h3⟩;have hn:=Aj3 x;rw[hl _ rfl rfl (by show(SX x).n<=1000;omega),Aa];show br (decide (x.k<1)) _ (br (decide (x.k>4)) _ (br (x.k==1) (br (x.cl !=0) _ (br (Qd x.k x) _ (ckA v x))) (br (Qd x.k x) _ (ckA v x))))=_;have hE:(GK x||Qd x.k x)=true->some [D.v (i64 8)]=some [D.v (i64 (ckE v x))]:=fun h=>by unfold ckE;rw[h];rfl
   by_cases h1:GK x=true
   ·have hE':=hE (by rw[h1];rfl);rw[<-hE'];unfold GK at h1;cases c1:decide (x.k<1)
    ·rw[c1]at h1;cases c2:decide (x.k>4)
     ·rw[c2,Bool.false_or,Bool.false_or,A2]at h1;rw[h1.1,h1.2];rfl
     ·rfl
    ·rfl
   ·have h1:GK x=false:=by simpa using h1
    have h1':=h1;unfold GK at h1';simp only[AI]at h1';rw[h1'.1,h1'.2.1,Ac,Ac];have hmid:br (Qd x.k x) (some [D.v (i64 8)]) (ckA v x)=some [D.v (i64 (ckE v x))]:=by
     cases c3:Qd x.k x
     ·rw[Ac];exact Adj v x h1 c3 hc
     ·exact hE (by rw[h1,c3];rfl)
    cases c2:x.k==1
    ·exact hmid
    ·have h3:=h1'.2.2;rw[c2,Bool.true_and]at h3;rw[Aa,h3,Ac];exact hmid
  ·cases h
 ·cases h
open Go.Lib Go.RowKit
theorem YA{mem:List (Option Blk)}{ρ:Ev.Map}{B B':Nat}{w w':World}(hall:∀(id:Nat)(b:Blk),mem[id]? =some (some b)->∃ks r,b=.row ks false r)(h:MemR mem ρ B w)(hb:Below w.heap.size w w'):MemR mem ρ B' w':=by
 refine⟨fun id b hm=>?_,h.dead,h.inj⟩;obtain⟨L,hL,hr⟩:=h.blk id b hm;refine⟨L,hL,?_⟩;obtain⟨ks,r,rfl⟩:=hall id b hm;obtain⟨h1,h2,h3,h4,h5⟩:=hr;refine⟨h1,h2,fun h=>(by cases h),fun hn=>?_,h5⟩;obtain⟨h6,h7⟩:=h4 hn;have hok:∀b,Ev.okB mem ρ w b->Ev.okB mem ρ w' b∧w'.heap[b]? =w.heap[b]? :=fun b hb'=>⟨⟨Nat.lt_of_lt_of_le hb'.1 hb.size,hb'.2⟩,hb.block b hb'.1⟩;exact⟨fun _=>(hok _ (h6 rfl)).1,h7.mono hok (hok _ (h6 rfl)).2⟩
theorem XM{mem:List (Option Blk)}{ρ:Ev.Map}{w:World}{r:Row}{e j:Nat}{y:Value}(h:CellR (Ev.okB mem ρ w) w (.slice [.int .i64]) r e j y):
  ∃a cap b off,y=.slice a (r.R e j).n cap∧(0<(r.R e j).n->a=some ⟨b,off,none⟩∧b<w.heap.size)∧∀i,i<(r.R e j).n->w.cell? ⟨b,off+i,none⟩=some (.int .i64 ((r.R e j).I i 0)):=by
 cases h with
 |@slice0 _ _ _ _ a cap h1=>exact⟨a,cap,0,0,by rw[h1],fun h=>by omega,fun i hi=>by omega⟩
 |@slice _ _ _ _ b off n cap h1 h2 h3 h4=>
  refine⟨_,cap,b,off,by rw[h1],fun _=>⟨rfl,h3.1⟩,fun i hi=>?_⟩;cases h4 with
  |mk v g1 g2=>
   have:=g1 i 0 _ hi rfl;rw[Ey (g2 i 0 _ hi rfl)]at this;rw[<-this];show w.cell? _=w.cell? ⟨b,off+i*1+0,none⟩;rw[Nat.mul_one,Nat.add_zero]
theorem Aix{cs:Array Value}(h:cs.size=15):cs= #[cs.getD 0 unk,cs.getD 1 unk,cs.getD 2 unk,cs.getD 3 unk,cs.getD 4 unk,cs.getD 5 unk,cs.getD 6 unk,cs.getD 7 unk,cs.getD 8 unk,cs.getD 9 unk,cs.getD 10 unk,cs.getD 11 unk,cs.getD 12 unk,cs.getD 13 unk,cs.getD 14 unk]:=by
 apply Array.ext (by rw[h];rfl);intro i h1 h2;have hi:i<15:=by omega
 have h3:cs[i]=cs.getD i unk:=by rw[Array.getD_eq_getD_getElem?,AJ h1];rfl
 rw[h3]
 match i,hi with
 |0,_=>rfl
 |1,_=>rfl
 |2,_=>rfl
 |3,_=>rfl
 |4,_=>rfl
 |5,_=>rfl
 |6,_=>rfl
 |7,_=>rfl
 |8,_=>rfl
 |9,_=>rfl
 |10,_=>rfl
 |11,_=>rfl
 |12,_=>rfl
 |13,_=>rfl
 |14,_=>rfl
def Akn(x:Dc):List Value:=[.int .u8 x.k,S_ 0 0 x.ca.n,S_ 1 0 x.pi.n,.int .u8 x.pc,S_ 2 0 x.wo.n,S_ 3 0 x.gv.n,S_ 4 0 x.aa.n,S_ 5 0 x.fv.n,.int .i64 x.rr,S_ 6 0 x.lr.n,S_ 7 0 x.lp.n,.int .i64 x.ld,S_ 8 0 x.ba.n,S_ 9 0 x.pa.n,.int .u8 x.cl]
def Jj(x:Dc):List (Option Blk):=[some (.row ksC false x.ca),some (.row ksP false x.pi),some (.row ksW false x.wo),some (.row Ls false x.gv),some (.row FW false x.aa),some (.row Ls false x.fv),some (.row FW false x.lr),some (.row FW false x.lp),some (.row FW false x.ba),some (.row ks3 false x.pa)]
theorem Ut(x:Dc):Az false [x.D] []=some ([.agg ⟨Akn x⟩],Jj x):=rfl
theorem YX(x:Dc):∀(id:Nat)(b:Blk),(Jj x)[id]? =some (some b)->∃ks r,b=.row ks false r:=fun id b h=>by
 unfold Jj at h
 match id,h with
 |0,h=>cases h;exact⟨_,_,rfl⟩
 |1,h=>cases h;exact⟨_,_,rfl⟩
 |2,h=>cases h;exact⟨_,_,rfl⟩
 |3,h=>cases h;exact⟨_,_,rfl⟩
 |4,h=>cases h;exact⟨_,_,rfl⟩
 |5,h=>cases h;exact⟨_,_,rfl⟩
 |6,h=>cases h;exact⟨_,_,rfl⟩
 |7,h=>cases h;exact⟨_,_,rfl⟩
 |8,h=>cases h;exact⟨_,_,rfl⟩
 |9,h=>cases h;exact⟨_,_,rfl⟩
 |n+10,h=>simp at h
theorem Aj2{ρ:Ev.Map}{N:Nat}{xs:List Value}{y:Value}(h:V ρ N (.agg ⟨xs⟩) y):∃cs:Array Value,y=.agg cs∧xs.length=cs.size∧∀i x,xs[i]? =some x->V ρ N x (cs.getD i unk):=by
 cases h with
 |@agg _ ys h1 h2=>
  refine⟨ys,rfl,h1,fun i x hx=>?_⟩;have hi:i<ys.size:=by
   have:=(A0.1 hx).1;rw[<-h1];exact this
  have h3:ys[i]? =some (ys.getD i unk):=by rw[Array.getD_eq_getD_getElem?,AJ hi];rfl
  exact h2 i x _ (by simpa using hx) h3
def PU(q:Int×Int):List UInt8:=Rt.txL q.1 q.2
def Ih(x:Nat->Int×Int):Nat->List UInt8
 |0=>[]
 |n+1=>Ih x n++(32::PU (x n))
def iQ(q:Int×Int):Bool:=Rt.iR q.1&&Rt.iR q.2
theorem Sm{q:Int×Int}(h:iQ q=true):(PU q).length<=43:=by
 unfold iQ at h;rw[A2,<-Rt.iR_same,<-Rt.iR_same]at h;have h1:=ES h.1;have h2:=ES h.2;unfold PU Rt.txL;split
 ·split
  ·rw[AG,List.length_cons];omega
  ·omega
 ·exact Nat.zero_le _
theorem SA{x:Nat->Int×Int}(h:∀j,iQ (x j)=true):∀n,(Ih x n).length<=n*44
 |0=>Nat.zero_le _
 |n+1=>by
  have h1:=SA h n;have h2:=Sm (h n);show(Ih x n++(32::PU (x n))).length<=_;rw[AG,List.length_cons];omega
theorem Adt{ρ:Ev.Map}{N:Nat}{s:ByteArray}{n:Int}{y:Value}(h:V ρ N (.tuple ⟨[.string s,.int .i64 n]⟩) y):y=.tuple #[.string s,.int .i64 n]:=by
 cases h with
 |@tuple _ ys h1 h2=>
  have hs:ys.size=2:=h1.symm;have e0:=Us (h2 0 _ (ys.getD 0 unk) rfl (by rw[Array.getD_eq_getD_getElem?,AJ (by omega)];rfl));have e1:=Na (h2 1 _ (ys.getD 1 unk) rfl (by rw[Array.getD_eq_getD_getElem?,AJ (by omega)];rfl));have:ys= #[ys.getD 0 unk,ys.getD 1 unk]:=by
   apply Array.ext (by rw[hs];rfl);intro i h3 h4;have hi:i<2:=by omega
   have h5:ys[i]=ys.getD i unk:=by rw[Array.getD_eq_getD_getElem?,AJ h3];rfl
   rw[h5]
   match i,hi with
   |0,_=>rfl
   |1,_=>rfl
  rw[this,e0,e1]
theorem Uk(q:Int×Int)(h:iQ q=true)(w:World)(hw:Wd w):Calls Tryz.prog 110 #[.agg #[.int .i64 q.1,.int .i64 q.2]] w fun e w'=>e=.returned (.tuple #[.string (txt (PU q)),.int .i64 (Rt.chkE q.1 q.2)])∧Below w.heap.size w w':=by
 refine(Rt.den_text w hw [.agg [.v (i64 q.1),.v (i64 q.2)]] [.v (str (PU q)),.v (i64 (Rt.chkE q.1 q.2))] (by
  unfold iQ at h;show some (Rt.iR q.1&&Rt.iR q.2,_)=_;rw[h];rfl) w (Below.refl _ _) [.agg #[.int .i64 q.1,.int .i64 q.2]] [.agg ⟨[i64 q.1,i64 q.2]⟩] [] (fun _=>none) rfl (NJ _ _) rfl (fun i x c hx hc=>?_)).mono fun e w' ⟨cv,he,hb',us,mem',ρ',hf,_,hcv⟩=>?_
 ·match i,hx,hc with
  |0,hx,hc=>
   simp only[List.getElem?_cons_zero,A5]at hx hc;subst hx hc;refine .agg rfl fun j x y hx hy=>?_
   match j,hx,hy with
   |0,hx,hy=>simp at hx hy;subst hx hy;exact .int
   |1,hx,hy=>simp at hx hy;subst hx hy;exact .int
 ·have e2:us=[str (PU q),i64 (Rt.chkE q.1 q.2)]:=by
   have:Az true [D.v (str (PU q)),.v (i64 (Rt.chkE q.1 q.2))] []=some ([str (PU q),i64 (Rt.chkE q.1 q.2)],[]):=rfl;rw[this]at hf;simp only[A5,A6]at hf;exact hf.1.symm
  subst e2;exact⟨by rw[he,Adt hcv],hb'⟩
set_option maxHeartbeats 800000 in
set_option maxRecDepth 1000000 in
theorem UF(B b:Nat)(L:List UInt8)(word:ByteArray)(a:Option Addr)(g off n cap:Nat)(x:Nat->Int×Int)(w:World)(hW:∀w',Below B w w'->Wd w')(hI:Lib.IsBuilderF 68 5 B b (Lib.byteCells L) w)(hB:B<=w.heap.size)
  (ha:0<n->a=some ⟨g,off,none⟩) (hx:∀j,iQ (x j)=true) (hl:∀w',Below B w w'->Lib.OthersKept 5 (some b) w w'->∀j,j<n->w'.cell? ⟨g,off+j*2,none⟩=some (.int .i64 (x j).1)∧w'.cell? ⟨g,off+j*2+1,none⟩=some (.int .i64 (x j).2))
  (hlen:L.length+word.size+n*44<=1000000000000):
  Calls Tryz.prog 64 #[.pointer (some ⟨b,0,none⟩),.string word,.slice a n cap] w fun e w'=>e=.returned (.tuple #[])∧Lib.IsBuilderF 68 5 B b (Lib.byteCells (L++Ae word++Ih x n++[10])) w'∧Below B w w'∧Lib.OthersKept 5 (some b) w w':=by
 have mx:Tryz.prog.follows .mixedOrders=true:=mixed;have hWh:Hid (∀w',Below B w w'->Wd w'):=hW;have hlh:Hid (∀w',Below B w w'->Lib.OthersKept 5 (some b) w w'->∀j,j<n->w'.cell? ⟨g,off+j*2,none⟩=some (.int .i64 (x j).1)∧w'.cell? ⟨g,off+j*2+1,none⟩=some (.int .i64 (x j).2)):=hl;clear hW hl
 go_enter Tryz.func64,Tryz.ntmps64
 go_wp2_with (first|(go_at_call 19;refine(FI B b L word _ hI ?_ hB).mono ?_))
 ·omega
 rintro e w1 ⟨rfl,hI1,hb1,hk1⟩
 go_wp2
 go_loopw [17] (fun i wr=>∃k:Nat,i=.int .i64 k∧k<=n∧Lib.IsBuilderF 68 5 B b (Lib.byteCells (L++Ae word++Ih x k)) wr∧Below B w wr∧Lib.OthersKept 5 (some b) w wr) (fun i _=>n-(RowKit.intOf i).toNat)
 case atStart=>
  exact⟨0,rfl,Nat.zero_le _,by simpa [Ih]using hI1,hb1,hk1⟩
 case round=>
  obtain⟨k,rfl,hk,hI2,hb2,hk2⟩:=hrel;have hle:(L++Ae word++Ih x k).length<=2000000000000:=by
   have h1:=SA hx k;have h3:k*44<=n*44:=AH _ hk;have h4:(Ae word).length=word.size:=(BL word).symm;rw[AG,AG];omega
  have hB5:B<=wr.heap.size:=Nat.le_trans hB hb2.size;by_cases hp:k<n
  ·have ha':=ha (by omega);subst ha';obtain⟨hc0,hc1⟩:=(show∀w',Below B w w'->Lib.OthersKept 5 (some b) w w'->∀j,j<n->w'.cell? ⟨g,off+j*2,none⟩=some (.int .i64 (x j).1)∧w'.cell? ⟨g,off+j*2+1,none⟩=some (.int .i64 (x j).2)from hlh) _ hb2 hk2 k hp;obtain⟨s,hs⟩:∃s,Hid (s=txt (PU (x k))):=⟨_,rfl⟩;have hs2:s.size<=43:=by rw[show s=txt (PU (x k))from hs,BV];exact Sm (hx k)
   have hI3:=hI2.alloc (.cells #[.int .i64 (x k).1,.int .i64 (x k).2] 123);have hb3:Below B w (wr.alloc (.cells #[.int .i64 (x k).1,.int .i64 (x k).2] 123)):=hb2.alloc hB5 _;have hk3:=hk2.alloc (.cells #[.int .i64 (x k).1,.int .i64 (x k).2] 123);have hct:=Uk (x k) (hx k) _ ((show∀w',Below B w w'->Wd w' from hWh) _ hb3);rw[<-show s=txt (PU (x k))from hs]at hct;obtain⟨P5,hp5⟩:∃P5:World->Prop,∀v,P5 v↔(Lib.IsBuilderF 68 5 B b (Lib.byteCells (L++Ae word++Ih x k)) v∧Below B w v∧Lib.OthersKept 5 (some b) w v):=⟨_,fun _=>Iff.rfl⟩;have hct2:Calls Tryz.prog 110 #[.agg #[.int .i64 (x k).1,.int .i64 (x k).2]] (wr.alloc (.cells #[.int .i64 (x k).1,.int .i64 (x k).2] 123)) fun e w'=>e=.returned (.tuple #[.string s,.int .i64 (Rt.chkE (x k).1 (x k).2)])∧P5 w':=hct.mono fun e w' ⟨h1,h2⟩=>⟨h1,(hp5 w').2 ⟨hI3.below h2,hb3.trans (h2.mono (Nat.le_trans hB hb3.size)),hk3.trans (JO h2 _)⟩⟩;have hp6:Hid (∀v,P5 v↔(Lib.IsBuilderF 68 5 B b (Lib.byteCells (L++Ae word++Ih x k)) v∧Below B w v∧Lib.OthersKept 5 (some b) w v)):=hp5;have hle2:Hid ((L++Ae word++Ih x k).length<=2000000000000):=hle;clear hct hI3 hb3 hk3 hI2 hb2 hk2 hI1 hb1 hk1 hI hp5 hle
   go_wp2_with (first|(go_at_call 110;refine hct2.mono ?_))
   rintro e w5 rfl h5;obtain⟨g3,g1,g2⟩:=(show∀v,P5 v↔(Lib.IsBuilderF 68 5 B b (Lib.byteCells (L++Ae word++Ih x k)) v∧Below B w v∧Lib.OthersKept 5 (some b) w v)from hp6) w5|>.1 h5;have hB6:B<=w5.heap.size:=Nat.le_trans hB g1.size;have hcat:¬9223372036854775807<1+s.size:=by omega
   have hlen5:(L++Ae word++Ih x k).length+(ByteArray.mk #[32]++s).size<=140737488355328:=by
    have hle:(L++Ae word++Ih x k).length<=2000000000000:=hle2;rw[ByteArray.size_append];show _+(1+_)<=_;omega
   clear hct2 hp6 h5
   go_wp2_with (first|(go_at_call 19;refine(FI B b (L++Ae word++Ih x k) _ w5 g3 ?_ hB6).mono ?_))
   ·exact hlen5
   rintro e w6 ⟨rfl,h6,b6,k6⟩
   go_wp2
   go_roundw
   case rel=>
    refine⟨k+1,by go_num,by omega,?_,g1.trans b6,g2.trans k6⟩;have e1:Ae (ByteArray.mk #[32]++s)=32::PU (x k):=by rw[Ee,show s=txt (PU (x k))from hs,Dt];rfl
    rw[e1]at h6;rw[show Ih x (k+1)=Ih x k++(32::PU (x k))from rfl,<-List.append_assoc];exact h6
   case measure=>
    simp[RowKit.intOf];omega
  ·have hkn:k=n:=by omega
   subst hkn;have hlen5:(L++Ae word++Ih x k).length+(ByteArray.mk #[10]).size<=140737488355328:=by
    show _+1<=_;omega
   go_wp2_with (first|(go_at_call 19;refine(FI B b (L++Ae word++Ih x k) _ wr hI2 ?_ hB5).mono ?_))
   ·exact hlen5
   rintro e w6 ⟨rfl,h6,b6,k6⟩
   go_wp2
   go_end0
   exact⟨rfl,h6,hb2.trans b6,hk2.trans k6⟩
theorem jF{w2:World}{b:Nat}{L:List UInt8}{w:World}(h:WrI w2 b L w)(hW:∀w',Below b w2 w'->Wd w')(hb:b<=w2.heap.size)(word:ByteArray)(a:Option Addr)(g off n cap:Nat)(x:Nat->Int)
  (ha:0<n->a=some ⟨g,off,none⟩) (hx:∀j,iR (x j)=true) (hl:∀w',Below b w w'->Lib.OthersKept 5 (some b) w w'->∀j,j<n->w'.cell? ⟨g,off+j,none⟩=some (.int .i64 (x j))) (hlen:L.length+word.size+n*22<=1000000000000):
  Calls Tryz.prog 22 #[.pointer (some ⟨b,0,none⟩),.string word,.slice a n cap] w fun e w'=>e=.returned (.tuple #[])∧WrI w2 b (L++Ae word++BR x n++[10]) w'∧Lib.OthersKept 5 (some b) w w':=
 (L8 b b L word a g off n cap x w (fun w' h'=>hW w' (h.bel.trans h')) h.bld (Nat.le_trans hb h.bel.size) ha hx hl hlen).mono fun e w' ⟨he,h1,h2,h3⟩=>⟨he,⟨h.bel.trans h2,h.oth.trans h3,h1⟩,h3⟩
theorem Tq{w2:World}{b:Nat}{L:List UInt8}{w:World}(h:WrI w2 b L w)(hW:∀w',Below b w2 w'->Wd w')(hb:b<=w2.heap.size)(word:ByteArray)(a:Option Addr)(g off n cap:Nat)(x:Nat->Int×Int)
  (ha:0<n->a=some ⟨g,off,none⟩) (hx:∀j,iQ (x j)=true) (hl:∀w',Below b w w'->Lib.OthersKept 5 (some b) w w'->∀j,j<n->w'.cell? ⟨g,off+j*2,none⟩=some (.int .i64 (x j).1)∧w'.cell? ⟨g,off+j*2+1,none⟩=some (.int .i64 (x j).2)) (hlen:L.length+word.size+n*44<=1000000000000):
  Calls Tryz.prog 64 #[.pointer (some ⟨b,0,none⟩),.string word,.slice a n cap] w fun e w'=>e=.returned (.tuple #[])∧WrI w2 b (L++Ae word++Ih x n++[10]) w'∧Lib.OthersKept 5 (some b) w w':=
 (UF b b L word a g off n cap x w (fun w' h'=>hW w' (h.bel.trans h')) h.bld (Nat.le_trans hb h.bel.size) ha hx hl hlen).mono fun e w' ⟨he,h1,h2,h3⟩=>⟨he,⟨h.bel.trans h2,h.oth.trans h3,h1⟩,h3⟩
def sPiece:ByteArray:=⟨⟨[112,105,101,99,101]⟩⟩
def sWorth:ByteArray:=⟨⟨[119,111,114,116,104]⟩⟩
def Lt(word:ByteArray)(x:Nat->Nat->Int×Int)(n:Nat->Nat):Nat->List UInt8
 |0=>[]
 |k+1=>Lt word x n k++(Ae word++Ih (x k) (n k)++[10])
theorem Ll{word:ByteArray}{x:Nat->Nat->Int×Int}{n:Nat->Nat}(hw:word.size<=100)(hx:∀e j,iQ (x e j)=true):∀k,(∀e,e<k->n e<=2000)->(Lt word x n k).length<=k*100000
 |0,_=>Nat.zero_le _
 |k+1,h=>by
  have h1:=Ll hw hx k (fun e he=>h e (by omega));have h2:=SA (hx k) (n k);have h3:=h k (by omega);have h4:(Ae word).length=word.size:=(BL word).symm;show(Lt word x n k++(Ae word++Ih (x k) (n k)++[10])).length<=_;rw[AG,AG,AG,List.length_singleton];omega
def JH(cl:Int)(un:Nat)(U Dv:Nat->Int)(j:Nat):Int:=if j=0 then cl else if j<1+un then U (j-1)else Dv (j-1-un)
theorem SH{cl:Int}{un:Nat}{U Dv:Nat->Int}(h1:iR cl=true)(h2:∀j,iR (U j)=true)(h3:∀j,iR (Dv j)=true)(j:Nat):iR (JH cl un U Dv j)=true:=by
 unfold JH;split
 ·exact h1
 ·split
  ·exact h2 _
  ·exact h3 _
theorem aX(cl:Int)(un dn:Nat)(U Dv:Nat->Int){j:Nat}(hj:j<1+un+dn):([Value.int .i64 cl]++(List.range un).map (fun i=>Value.int .i64 (U i))++(List.range dn).map (fun i=>Value.int .i64 (Dv i)))[j]? =some (.int .i64 (JH cl un U Dv j)):=by
 unfold JH;rw[List.getElem?_append];simp only[AG,List.length_singleton,List.length_map,List.length_range];by_cases h0:j<1+un
 ·rw[AM h0,List.getElem?_append];simp only[List.length_singleton];by_cases h1:j<1
  ·have:j=0:=by omega
   subst this;rfl
  ·rw[AL h1,AL (by omega),AM h0,List.getElem?_map,List.getElem?_range (by omega)];rfl
 ·rw[AL h0,AL (by omega),AL h0,List.getElem?_map,List.getElem?_range (by omega),show j-(1+un)=j-1-un by omega];rfl
theorem Xp(v:World)(x:Int)(H:Nat)(hH:v.heap.size=H):(v.alloc (.cells #[.int .i64 x] 3)).ownsRow H 3 1 (.slice (some ⟨H,0,none⟩) 1 1) 1 [.int .i64 x]:=by
 subst hH;exact⟨by simp,.inr ⟨v.heap.size,1,_,rfl,AC _,BG v _,by omega,by unfold maxLen;omega,rfl,rfl⟩⟩
theorem Ro{w2 v:World}{b ub uo un:Nat}{U:Nat->Int}(hv:Below b w2 v)(hub:ub<b)(hu:∀j,j<un->w2.cell? ⟨ub,uo+j,none⟩=some (.int .i64 (U j))):∀j u,((List.range un).map (fun i=>Value.int .i64 (U i)))[j]? =some u->v.cell? ((⟨ub,uo,none⟩:Addr).add j)=some u:=by
 intro j u h;rw[List.getElem?_map]at h;by_cases hj:j<un
 ·rw[List.getElem?_range hj]at h;cases h;rw[Addr.add_lit,hv.cell (p:=⟨ub,uo+j,none⟩) hub];exact hu j hj
 ·rw[List.getElem?_eq_none (by simpa using hj)]at h;cases h
theorem NW(un:Nat)(U:Nat->Int):∀u∈(List.range un).map (fun i=>Value.int .i64 (U i)),u.oneCell'=true:=by
 intro u hu;obtain⟨i,_,rfl⟩:=List.mem_map.1 hu;rfl
theorem OO{w7:World}{base g cap un dn:Nat}{x:Int}{U Dv:Nat->Int}(hown:w7.ownsRow base 3 1 (.slice (some ⟨g,0,none⟩) (1+un+dn) cap) (1+un+dn) ([Value.int .i64 x]++(List.range un).map (fun i=>Value.int .i64 (U i))++(List.range dn).map (fun i=>Value.int .i64 (Dv i)))){b:Nat}(hgb:g≠b):
  ∀w',Below b w7 w'->Lib.OthersKept 5 (some b) w7 w'->∀j,j<1+un+dn->w'.cell? ⟨g,0+j,none⟩=some (.int .i64 (JH x un U Dv j)):=by
 intro w' _ hk j hj;rcases hown.2 with⟨h0,_⟩|⟨g',cap',cur,hv,hb,hg,r1,r2,r3,r4⟩
 ·cases h0
 ·cases hv;have h1:=hk g _ hg (fun e=>hgb (by simpa using e)) (fun c fz e=>by cases e);rw[AE,Lib.cell_of_heap h1];have h2:=aX x un dn U Dv hj;rw[Nat.mul_one]at r4;rw[<-r4,List.getElem?_take_of_lt hj,Array.getElem?_toList]at h2;exact h2
def I4(S:Nat->Nat->Int)(j:Nat):Int×Int:=if j%2=0 then(S (j/2) 0,S (j/2) 1)else(S (j/2) 2,S (j/2) 3)
theorem SS{S:Nat->Nat->Int}(h:∀i c,Rt.iR (S i c)=true)(j:Nat):iQ (I4 S j)=true:=by
 unfold I4 iQ;split
 ·show(Rt.iR (S (j/2) 0)&&Rt.iR (S (j/2) 1))=true;rw[h,h];rfl
 ·show(Rt.iR (S (j/2) 2)&&Rt.iR (S (j/2) 3))=true;rw[h,h];rfl
def Xe(S:Nat->Nat->Int):Nat->List Value
 |0=>[]
 |n+1=>Xe S n++[.int .i64 (S n 0),.int .i64 (S n 1),.int .i64 (S n 2),.int .i64 (S n 3)]
theorem WX(S:Nat->Nat->Int):∀n,(Xe S n).length=n*4
 |0=>rfl
 |n+1=>by show(Xe S n++_).length=_;rw[AG,WX S n];show n*4+4=_;omega
theorem JY(S:Nat->Nat->Int):∀n i c,i<n->c<4->(Xe S n)[i*4+c]? =some (.int .i64 (S i c))
 |0,i,c,h,_=>by omega
 |n+1,i,c,h,hc=>by
  show(Xe S n++[.int .i64 (S n 0),.int .i64 (S n 1),.int .i64 (S n 2),.int .i64 (S n 3)])[i*4+c]? =_;rw[List.getElem?_append,WX];by_cases hi:i<n
  ·rw[AM (by omega)];exact JY S n i c hi hc
  ·have:i=n:=by omega
   subst this;rw[AL (by omega),show i*4+c-i*4=c by omega]
   match c,hc with
   |0,_=>rfl
   |1,_=>rfl
   |2,_=>rfl
   |3,_=>rfl
theorem Acn(S:Nat->Nat->Int)(n j:Nat)(hj:j<2*n):(Xe S n)[j*2]? =some (.int .i64 (I4 S j).1)∧(Xe S n)[j*2+1]? =some (.int .i64 (I4 S j).2):=by
 unfold I4;by_cases h:j%2=0
 ·rw[AM h,show j*2=j/2*4+0 by omega,show j/2*4+0+1=j/2*4+1 by omega];exact⟨JY S n _ 0 (by omega) (by omega),JY S n _ 1 (by omega) (by omega)⟩
 ·rw[AL h,show j*2=j/2*4+2 by omega,show j/2*4+2+1=j/2*4+3 by omega];exact⟨JY S n _ 2 (by omega) (by omega),JY S n _ 3 (by omega) (by omega)⟩
theorem Vu{w7:World}{base n:Nat}{v:Value}{S:Nat->Nat->Int}(hown:w7.ownsRow base 123 2 v (2*n) (Xe S n)){b:Nat}(hb:b<base):∃a cap g,v=.slice a (2*n) cap∧(0<2*n->a=some ⟨g,0,none⟩)∧
  ∀w',Below b w7 w'->Lib.OthersKept 5 (some b) w7 w'->∀j,j<2*n->w'.cell? ⟨g,0+j*2,none⟩=some (.int .i64 (I4 S j).1)∧w'.cell? ⟨g,0+j*2+1,none⟩=some (.int .i64 (I4 S j).2):=by
 rcases hown.2 with⟨rfl,h0⟩|⟨g,cap,cur,rfl,hbg,hg,r1,r2,r3,r4⟩
 ·exact⟨none,0,0,by rw[h0],fun h=>by omega,fun _ _ _ j hj=>by omega⟩
 ·refine⟨_,cap,g,rfl,fun _=>rfl,fun w' _ hk j hj=>?_⟩;have h1:=hk g _ hg (fun e=>by have e:g=b:=Option.some.inj e;omega) (fun c fz e=>by cases e);obtain⟨q1,q2⟩:=Acn S n j hj;rw[AE,Lib.cell_of_heap h1,Lib.cell_of_heap h1];rw[<-r4,List.getElem?_take_of_lt (by omega),Array.getElem?_toList]at q1 q2;exact⟨q1,q2⟩
theorem Ai2:(Tryz.prog.info? 123).map (fun i=>(i.zero,i.size,i.bytes))=some (some (.agg #[.int .i64 0,.int .i64 0]),2,16):=by kernel_rfl
set_option maxHeartbeats 2000000 in
set_option maxRecDepth 1000000 in
theorem YJ{w2:World}{b:Nat}{L:List UInt8}{w:World}(h:WrI w2 b L w)(hW:∀v,Below b w2 v->Wd v)(hb:b<=w2.heap.size)(c0 c3 c5 c6 c7 c8 c9 c10 c11 c12 c13 c14:Value)(ca pa wa:Option Addr)(cn cc pn pcp wn wcp cb co pb po wb wo:Nat)
  (cl:Nat->Int) (ub uo un uc db dO dn dc:Nat->Nat) (U Dv:Nat->Nat->Int) (hb2:b<w2.heap.size)
  (hca:0<cn->ca=some ⟨cb,co,none⟩) (hcb:0<cn->cb<b)
  (hc:∀e,e<cn->w2.cell? ⟨cb,co+e*3,none⟩=some (.int .i64 (cl e))∧w2.cell? ⟨cb,co+e*3+1,none⟩=some (.slice (some ⟨ub e,uo e,none⟩) (un e) (uc e))∧w2.cell? ⟨cb,co+e*3+2,none⟩=some (.slice (some ⟨db e,dO e,none⟩) (dn e) (dc e)))
  (hu:∀e,e<cn->(0<un e∧un e+dn e<=900∧ub e<b∧∀j,j<un e->w2.cell? ⟨ub e,uo e+j,none⟩=some (.int .i64 (U e j)))∧(0<dn e∧dn e<=900∧db e<b∧∀j,j<dn e->w2.cell? ⟨db e,dO e+j,none⟩=some (.int .i64 (Dv e j))))
  (hr1:∀e,iR (cl e)=true) (hr2:∀e j,iR (U e j)=true) (hr3:∀e j,iR (Dv e j)=true) (hcn:cn<=1000) (hlen:L.length<=1000000)
  (sa va:Nat->Option Addr) (sb so sn sc vb vo vn vc:Nat->Nat) (S:Nat->Nat->Nat->Int) (Wq:Nat->Nat->Int×Int)
  (hpa:0<pn->pa=some ⟨pb,po,none⟩∧pb<b) (hps:∀e,e<pn->w2.cell? ⟨pb,po+e,none⟩=some (.slice (sa e) (sn e) (sc e)))
  (hsa:∀e,e<pn->sn e<=900∧(0<sn e->sa e=some ⟨sb e,so e,none⟩∧sb e<b)∧∀i,i<sn e->∀c,c<4->w2.cell? ⟨sb e,so e+i*4+c,none⟩=some (.int .i64 (S e i c)))
  (hwa:0<wn->wa=some ⟨wb,wo,none⟩∧wb<b) (hws:∀e,e<wn->w2.cell? ⟨wb,wo+e,none⟩=some (.slice (va e) (vn e) (vc e)))
  (hva:∀e,e<wn->vn e<=900∧(0<vn e->va e=some ⟨vb e,vo e,none⟩∧vb e<b)∧∀j,j<vn e->w2.cell? ⟨vb e,vo e+j*2,none⟩=some (.int .i64 (Wq e j).1)∧w2.cell? ⟨vb e,vo e+j*2+1,none⟩=some (.int .i64 (Wq e j).2))
  (hr4:∀e i c,Rt.iR (S e i c)=true) (hr5:∀e j,iQ (Wq e j)=true) (hpn:pn<=1000) (hwn:wn<=1000):
  Calls Tryz.prog 21 #[.pointer (some ⟨b,0,none⟩),.agg #[c0,.slice ca cn cc,.slice pa pn pcp,c3,.slice wa wn wcp,c5,c6,c7,c8,c9,c10,c11,c12,c13,c14]] w fun e w'=>e=.returned (.tuple #[])∧WrI w2 b (L++F6 sCake (fun e=>JH (cl e) (un e) (U e) (Dv e)) (fun e=>1+un e+dn e) cn++Lt sPiece (fun e=>I4 (S e)) (fun e=>2*sn e) pn++Lt sWorth Wq vn wn) w':=by
 obtain⟨i0,hi,hz0,hz1,hz2⟩:=info_parts jA;obtain⟨i1,hj,hy0,hy1,hy2⟩:=info_parts Ai2;obtain⟨docs,hdocs⟩:∃docs:Array Value,docs= #[c0,.slice ca cn cc,.slice pa pn pcp,c3,.slice wa wn wcp,c5,c6,c7,c8,c9,c10,c11,c12,c13,c14]:=⟨_,rfl⟩;obtain⟨b0,hb0⟩:∃b0,w.heap.size=b0:=⟨_,rfl⟩;have hbb:b<b0:=by have:=h.bel.size;omega
 have h1:WrI w2 b L (w.alloc (.cells docs 39)):=h.alloc hb _;have hbx:(w.alloc (.cells docs 39)).heap[b0]? =some (.cells docs 39 (0,0)):=by rw[<-hb0];exact BG w _
 obtain⟨PI,hPI⟩:∃PI:List UInt8->World->Prop,∀l v,PI l v↔(WrI w2 b l v∧v.heap[b0]? =some (.cells docs 39 (0,0))):=⟨_,fun _ _=>Iff.rfl⟩;have hPIh:Hid (∀l v,PI l v↔(WrI w2 b l v∧v.heap[b0]? =some (.cells docs 39 (0,0)))):=hPI;have hP0:Hid (PI L (w.alloc (.cells docs 39))):=(hPI _ _).2 ⟨h1,hbx⟩;have hWh:Hid (∀v,Below b w2 v->Wd v):=hW;have hch:Hid (∀e,e<cn->w2.cell? ⟨cb,co+e*3,none⟩=some (.int .i64 (cl e))∧w2.cell? ⟨cb,co+e*3+1,none⟩=some (.slice (some ⟨ub e,uo e,none⟩) (un e) (uc e))∧w2.cell? ⟨cb,co+e*3+2,none⟩=some (.slice (some ⟨db e,dO e,none⟩) (dn e) (dc e))):=hc;have huh:Hid (∀e,e<cn->(0<un e∧un e+dn e<=900∧ub e<b∧∀j,j<un e->w2.cell? ⟨ub e,uo e+j,none⟩=some (.int .i64 (U e j)))∧(0<dn e∧dn e<=900∧db e<b∧∀j,j<dn e->w2.cell? ⟨db e,dO e+j,none⟩=some (.int .i64 (Dv e j)))):=hu;have hpsh:Hid (∀e,e<pn->w2.cell? ⟨pb,po+e,none⟩=some (.slice (sa e) (sn e) (sc e))):=hps;have hsah:Hid (∀e,e<pn->sn e<=900∧(0<sn e->sa e=some ⟨sb e,so e,none⟩∧sb e<b)∧∀i,i<sn e->∀c,c<4->w2.cell? ⟨sb e,so e+i*4+c,none⟩=some (.int .i64 (S e i c))):=hsa;have hwsh:Hid (∀e,e<wn->w2.cell? ⟨wb,wo+e,none⟩=some (.slice (va e) (vn e) (vc e))):=hws;have hvah:Hid (∀e,e<wn->vn e<=900∧(0<vn e->va e=some ⟨vb e,vo e,none⟩∧vb e<b)∧∀j,j<vn e->w2.cell? ⟨vb e,vo e+j*2,none⟩=some (.int .i64 (Wq e j).1)∧w2.cell? ⟨vb e,vo e+j*2+1,none⟩=some (.int .i64 (Wq e j).2)):=hva;have hpah:Hid (0<pn->pa=some ⟨pb,po,none⟩∧pb<b):=hpa;have hwah:Hid (0<wn->wa=some ⟨wb,wo,none⟩∧wb<b):=hwa;clear hps hsa hws hva hpa hwa;have hdh:Hid (docs= #[c0,.slice ca cn cc,.slice pa pn pcp,c3,.slice wa wn wcp,c5,c6,c7,c8,c9,c10,c11,c12,c13,c14]):=hdocs;have hb0h:Hid (w.heap.size=b0):=hb0;clear h1 hbx hPI hW hc hu h;rw[<-hdocs]
 go_enter Tryz.func21,Tryz.ntmps21
 rw[hdocs]at*
 clear hb0
 go_wp2
 have hPIc:Hid (∀l l' v v',PI l v->WrI w2 b l' v'->v'.heap[b0]? =v.heap[b0]? ->PI l' v'):=fun l l' v v' hp hw he=>((show∀l v,PI l v↔_ from hPIh) l' v').2 ⟨hw,he.trans (((show∀l v,PI l v↔_ from hPIh) l v).1 hp).2⟩;have hPId:Hid (∀l v,PI l v->v.heap[b0]? =some (.cells #[c0,.slice ca cn cc,.slice pa pn pcp,c3,.slice wa wn wcp,c5,c6,c7,c8,c9,c10,c11,c12,c13,c14] 39 (0,0))):=fun l v hp=>(((show∀l v,PI l v↔_ from hPIh) l v).1 hp).2;have hPIb:Hid (∀l v,PI l v->WrI w2 b l v):=fun l v hp=>((show∀l v,PI l v↔_ from hPIh) l v).1 hp|>.1;have hT:Hid (∀k,k<=cn->(L++F6 sCake (fun e=>JH (cl e) (un e) (U e) (Dv e)) (fun e=>1+un e+dn e) k).length<=100000000):=fun k hk=>by
  have h1:=Ie (word:=sCake) (x:=fun e=>JH (cl e) (un e) (U e) (Dv e)) (n:=fun e=>1+un e+dn e) (by decide) (fun e j=>SH (hr1 e) (hr2 e) (hr3 e) j) k (fun e he=>by
   have:=((show∀e,e<cn->(0<un e∧un e+dn e<=900∧ub e<b∧∀j,j<un e->w2.cell? ⟨ub e,uo e+j,none⟩=some (.int .i64 (U e j)))∧(0<dn e∧dn e<=900∧db e<b∧∀j,j<dn e->w2.cell? ⟨db e,dO e+j,none⟩=some (.int .i64 (Dv e j)))from huh) e (by omega)).1.2.1;show 1+un e+dn e<=1000;omega)
  have h2:k*30000<=1000*30000:=AH _ (by omega);rw[AG];omega
 go_loopw [16] (fun i wr=>∃k:Nat,i=.int .i64 k∧k<=cn∧PI (L++F6 sCake (fun e=>JH (cl e) (un e) (U e) (Dv e)) (fun e=>1+un e+dn e) k) wr) (fun i _=>cn-(RowKit.intOf i).toNat)
 case atStart=>
  exact⟨0,rfl,Nat.zero_le _,by rw[show L++F6 sCake (fun e=>JH (cl e) (un e) (U e) (Dv e)) (fun e=>1+un e+dn e) 0=L from List.append_nil _];exact hP0⟩
 case round=>
  obtain⟨k,rfl,hk,hp0⟩:=hrel;obtain⟨TL,hTL⟩:∃TL,Hid (TL=L++F6 sCake (fun e=>JH (cl e) (un e) (U e) (Dv e)) (fun e=>1+un e+dn e) k):=⟨_,rfl⟩;rw[<-show TL=_ from hTL]at hp0;have hlT:Hid (TL.length<=100000000):=by
   show _<=_;rw[show TL=_ from hTL];exact(show∀k,k<=cn->(L++F6 sCake (fun e=>JH (cl e) (un e) (U e) (Dv e)) (fun e=>1+un e+dn e) k).length<=100000000 from hT) k hk
  by_cases hp:k<cn
  ·have ha':=hca (by omega);have hcb':=hcb (by omega);subst ha';have hw:=(show∀l v,PI l v->WrI w2 b l v from hPIb) _ _ hp0;obtain⟨d0,d1,d2⟩:=(show∀e,e<cn->w2.cell? ⟨cb,co+e*3,none⟩=some (.int .i64 (cl e))∧w2.cell? ⟨cb,co+e*3+1,none⟩=some (.slice (some ⟨ub e,uo e,none⟩) (un e) (uc e))∧w2.cell? ⟨cb,co+e*3+2,none⟩=some (.slice (some ⟨db e,dO e,none⟩) (dn e) (dc e))from hch) k hp;obtain⟨⟨u1,u2,u3,u4⟩,v1,v2,v3,v4⟩:=(show∀e,e<cn->(0<un e∧un e+dn e<=900∧ub e<b∧∀j,j<un e->w2.cell? ⟨ub e,uo e+j,none⟩=some (.int .i64 (U e j)))∧(0<dn e∧dn e<=900∧db e<b∧∀j,j<dn e->w2.cell? ⟨db e,dO e+j,none⟩=some (.int .i64 (Dv e j)))from huh) k hp;rw[<-hw.bel.cell (p:=⟨cb,co+k*3,none⟩) hcb']at d0;rw[<-hw.bel.cell (p:=⟨cb,co+k*3+1,none⟩) hcb']at d1;rw[<-hw.bel.cell (p:=⟨cb,co+k*3+2,none⟩) hcb']at d2;have hwh:Hid (WrI w2 b TL wr):=hw;have hnu:Hid (∀v,Below b w2 v->∀j u,((List.range (un k)).map (fun i=>Value.int .i64 (U k i)))[j]? =some u->v.cell? ((⟨ub k,uo k,none⟩:Addr).add j)=some u):=fun v hv=>Ro hv u3 u4;have hnd:Hid (∀v,Below b w2 v->∀j u,((List.range (dn k)).map (fun i=>Value.int .i64 (Dv k i)))[j]? =some u->v.cell? ((⟨db k,dO k,none⟩:Addr).add j)=some u):=fun v hv=>Ro hv v3 v4;have hbw:Hid (Below b w2 wr):=hw.bel;have hbz:b<=wr.heap.size:=Nat.le_trans hb hw.bel.size;clear hw u4 v4 hT
   go_wp2
   obtain⟨wA,hwA⟩:∃wA,wA=wr.alloc (.cells #[.int .i64 (cl k),.slice (some ⟨ub k,uo k,none⟩) (un k) (uc k),.slice (some ⟨db k,dO k,none⟩) (dn k) (dc k)] 112):=⟨_,rfl⟩;have hA0:wA.heap[wr.heap.size]? =some (.cells #[.int .i64 (cl k),.slice (some ⟨ub k,uo k,none⟩) (un k) (uc k),.slice (some ⟨db k,dO k,none⟩) (dn k) (dc k)] 112 (0,0)):=by rw[hwA];exact BG wr _
   have e0:wA.cell? ⟨wr.heap.size,0,none⟩=some (.int .i64 (cl k)):=by rw[Lib.cell_of_heap hA0];rfl
   have e1:wA.cell? ⟨wr.heap.size,1,none⟩=some (.slice (some ⟨ub k,uo k,none⟩) (un k) (uc k)):=by rw[Lib.cell_of_heap hA0];rfl
   have e2:wA.cell? ⟨wr.heap.size,2,none⟩=some (.slice (some ⟨db k,dO k,none⟩) (dn k) (dc k)):=by rw[Lib.cell_of_heap hA0];rfl
   have hsA:wA.heap.size=wr.heap.size+1:=by rw[hwA];simp
   have hbA:Below wr.heap.size wr wA:=by rw[hwA];exact(Below.refl _ wr).alloc (AC _) _
   rw[<-hwA];obtain⟨s5,hs5⟩:∃s5,s5=wr.heap.size:=⟨_,rfl⟩;rw[<-hs5]at e0 e1 e2 hsA hbA⊢;have hs5h:Hid (s5=wr.heap.size):=hs5;have hA0h:Hid (wA.heap[s5]? =some (.cells #[.int .i64 (cl k),.slice (some ⟨ub k,uo k,none⟩) (un k) (uc k),.slice (some ⟨db k,dO k,none⟩) (dn k) (dc k)] 112 (0,0))):=by rw[hs5];exact hA0
   have hbs:b<=s5:=by omega
   have hbs2:b<s5:=by have:=(show Below b w2 wr from hbw).size;omega
   clear hwA hA0 hs5 d0 d1 d2;have hq2:1+un k+dn k<=100000:=by omega
   have hbAh:Hid (Below s5 wr wA):=hbA;clear hbA
   go_region_held3 (fun w'=>w'.cell? ⟨s5,0,none⟩=some (.int .i64 (cl k))∧w'.cell? ⟨s5,1,none⟩=some (.slice (some ⟨ub k,uo k,none⟩) (un k) (uc k))∧w'.cell? ⟨s5,2,none⟩=some (.slice (some ⟨db k,dO k,none⟩) (dn k) (dc k)))
    (first
     |go_keep
     |(refine⟨?_,?_,?_⟩<;>assumption)
     |(go_split_ands
       refine⟨?_,?_,?_⟩
       ·(rw[hgrow.cell_far _ (by simp;omega) (by first|(simp[Value.ownBlock];done)|(simp[Value.ownBlock];omega))];assumption)
       ·(rw[hgrow.cell_far _ (by simp;omega) (by first|(simp[Value.ownBlock];done)|(simp[Value.ownBlock];omega))];assumption)
       ·(rw[hgrow.cell_far _ (by simp;omega) (by first|(simp[Value.ownBlock];done)|(simp[Value.ownBlock];omega))];assumption)))
    (first
     |(refine step_append_lies _ (by rfl) _ _ _ (by rfl) (s5+1) 3 i0 _ 1 8 Tryz.underlying32 hi hz0 hz1 hz2 rfl (by omega) (.slice (some ⟨s5+1,0,none⟩) 1 1) 1 [.int .i64 (cl k)] (by rfl) (Xp _ (cl k) (s5+1) hsA) ⟨ub k,uo k,none⟩ (un k) (uc k) ((List.range (un k)).map (fun i=>Value.int .i64 (U k i))) (by rfl) (by simp) ((show∀v,Below b w2 v->∀j u,((List.range (un k)).map (fun i=>Value.int .i64 (U k i)))[j]? =some u->v.cell? ((⟨ub k,uo k,none⟩:Addr).add j)=some u from hnu) _ (((show Below b w2 wr from hbw).trans ((show Below s5 wr wA from hbAh).mono hbs)).drew.alloc (by simp;omega) _)) (NW _ _) u1 (by unfold maxLen;omega) (by omega) (by simp;omega) (s5+2) (by simp;omega) ?_;intro g6 cap6 w6 hown6 hgrow hat6 hlt6;
       have hb6:Below (s5+1) wA w6:=((Below.drew (Below.refl (s5+1) wA)).alloc (by simp;omega) _).grown hgrow (by simp;omega) (fun k hk=>by cases hk;exact AC _);have hz6:s5+1<=w6.heap.size:=(by have:=hb6.size;omega))
     |(refine step_append_lies _ (by rfl) _ _ _ (by rfl) (s5+1) 3 i0 _ 1 8 Tryz.underlying32 hi hz0 hz1 hz2 rfl (by omega) (.slice (some ⟨g6,0,none⟩) (1+un k) cap6) (1+un k) ([.int .i64 (cl k)]++(List.range (un k)).map (fun i=>Value.int .i64 (U k i))) (by rfl) hown6 ⟨db k,dO k,none⟩ (dn k) (dc k) ((List.range (dn k)).map (fun i=>Value.int .i64 (Dv k i))) (by rfl) (by simp) ((show∀v,Below b w2 v->∀j u,((List.range (dn k)).map (fun i=>Value.int .i64 (Dv k i)))[j]? =some u->v.cell? ((⟨db k,dO k,none⟩:Addr).add j)=some u from hnd) _ (((show Below b w2 wr from hbw).trans ((show Below s5 wr wA from hbAh).mono hbs)).trans (hb6.mono (by omega)))) (NW _ _) v1 (by unfold maxLen;omega) (by omega) hz6 w6.heap.size rfl ?_;intro g7 cap7 w7 hown7 hgrow hat7 hlt7;
       have hg6:s5+1<=g6:=(hat6.elim (fun e=>by have e:s5+1=g6:=Option.some.inj e;omega) (fun e=>by omega));have hb7:Below (s5+1) wA w7:=hb6.grown hgrow hz6 (fun k hk=>by cases hk;exact hg6);have hw7:WrI w2 b TL w7:=(show WrI w2 b TL wr from hwh).step hb (((show Below s5 wr wA from hbAh).trans (hb7.mono (by omega))).mono (by rw[show s5=wr.heap.size from hs5h];exact AC _));have hg7:g7≠b:=(hat7.elim (fun e=>by have e:g6=g7:=Option.some.inj e;omega) (fun e=>by omega)))
     |(go_at_call 22;refine(jF hw7 (show∀v,Below b w2 v->Wd v from hWh) hb sCake (some ⟨g7,0,none⟩) g7 0 (1+un k+dn k) cap7 (JH (cl k) (un k) (U k) (Dv k)) (fun _=>rfl) (SH (hr1 k) (hr2 k) (hr3 k)) (OO hown7 hg7) (by have h9:TL.length<=100000000:=hlT;have h8:sCake.size=4:=rfl;omega)).mono ?_;rintro e w8 ⟨rfl,h8,hk8⟩;
       have h58:w8.heap[s5]? =some (.cells #[.int .i64 (cl k),.slice (some ⟨ub k,uo k,none⟩) (un k) (uc k),.slice (some ⟨db k,dO k,none⟩) (dn k) (dc k)] 112 (0,0)):=hk8 s5 _ ((hb7.block s5 (by omega)).trans hA0h) (fun e=>by have e:s5=b:=Option.some.inj e;omega) (fun c fz e=>by cases e);have f80:w8.cell? ⟨s5,0,none⟩=some (.int .i64 (cl k)):=(by rw[Lib.cell_of_heap h58];rfl);have f81:w8.cell? ⟨s5,1,none⟩=some (.slice (some ⟨ub k,uo k,none⟩) (un k) (uc k)):=(by rw[Lib.cell_of_heap h58];rfl);have f82:w8.cell? ⟨s5,2,none⟩=some (.slice (some ⟨db k,dO k,none⟩) (dn k) (dc k)):=(by rw[Lib.cell_of_heap h58];rfl)))
   have hbx:=(show∀l v,PI l v->v.heap[b0]? =some (.cells #[c0,.slice (some ⟨cb,co,none⟩) cn cc,.slice pa pn pcp,c3,.slice wa wn wcp,c5,c6,c7,c8,c9,c10,c11,c12,c13,c14] 39 (0,0))from hPId) _ _ hp0;have hlt0:b0<wr.heap.size:=(A1.1 hbx).1;have h7b:w7.heap[b0]? =wr.heap[b0]? :=by
    rw[hb7.block b0 (by rw[show s5=wr.heap.size from hs5h];omega),(show Below s5 wr wA from hbAh).block b0 (by rw[show s5=wr.heap.size from hs5h];omega)]
   have h8b:w8.heap[b0]? =wr.heap[b0]? :=by
    rw[hbx];exact hk8 b0 _ (h7b.trans hbx) (fun e=>by have e:b0=b:=Option.some.inj e;omega) (fun c fz e=>by cases e)
   have hpN:Hid (PI (L++F6 sCake (fun e=>JH (cl e) (un e) (U e) (Dv e)) (fun e=>1+un e+dn e) (k+1)) w8):=(show∀l l' v v',PI l v->WrI w2 b l' v'->v'.heap[b0]? =v.heap[b0]? ->PI l' v' from hPIc) _ _ _ _ hp0 (by
    have e9:L++F6 sCake (fun e=>JH (cl e) (un e) (U e) (Dv e)) (fun e=>1+un e+dn e) (k+1)=TL++Ae sCake++BR (JH (cl k) (un k) (U k) (Dv k)) (1+un k+dn k)++[10]:=by
     rw[show TL=_ from hTL,show F6 sCake (fun e=>JH (cl e) (un e) (U e) (Dv e)) (fun e=>1+un e+dn e) (k+1)=F6 sCake (fun e=>JH (cl e) (un e) (U e) (Dv e)) (fun e=>1+un e+dn e) k++(Ae sCake++BR (JH (cl k) (un k) (U k) (Dv k)) (1+un k+dn k)++[10])from rfl];simp only[List.append_assoc]
    rw[e9];exact h8) h8b
   clear hbx h7b h8b h8 hk8 h58 f80 f81 f82 hw7 hown7 hown6 hgrow hb7 hb6
   go_wp2
   go_roundw
   case rel=>exact⟨k+1,by go_num,by omega,hpN⟩
   case measure=>simp[RowKit.intOf];omega
  ·have hkn:k=cn:=by omega
   subst hkn;have hbx:=(show∀l v,PI l v->v.heap[b0]? =some (.cells #[c0,.slice ca k cc,.slice pa pn pcp,c3,.slice wa wn wcp,c5,c6,c7,c8,c9,c10,c11,c12,c13,c14] 39 (0,0))from hPId) _ _ hp0;have f2:wr.cell? ⟨b0,2,none⟩=some (.slice pa pn pcp):=by rw[Lib.cell_of_heap hbx];rfl
   rw[<-show w.heap.size=b0 from hb0h]at f2;have hp0h:Hid (PI TL wr):=hp0;have hlT1:Hid (TL.length<=100000000):=hlT;clear hbx hp0 hlT hT
   go_wp2
   clear f2;have hT2:Hid (∀k,k<=pn->(TL++Lt sPiece (fun e=>I4 (S e)) (fun e=>2*sn e) k).length<=300000000):=fun k hk=>by
    have h1:=Ll (word:=sPiece) (x:=fun e=>I4 (S e)) (n:=fun e=>2*sn e) (by decide) (fun e j=>SS (hr4 e) j) k (fun e he=>by
     have:=((show∀e,e<pn->sn e<=900∧(0<sn e->sa e=some ⟨sb e,so e,none⟩∧sb e<b)∧∀i,i<sn e->∀c,c<4->w2.cell? ⟨sb e,so e+i*4+c,none⟩=some (.int .i64 (S e i c))from hsah) e (by omega)).1;show 2*sn e<=2000;omega)
    have h2:k*100000<=1000*100000:=AH _ (by omega);have h3:TL.length<=100000000:=hlT1;rw[AG];omega
   go_loopw [36] (fun i wr=>∃k:Nat,i=.int .i64 k∧k<=pn∧PI (TL++Lt sPiece (fun e=>I4 (S e)) (fun e=>2*sn e) k) wr) (fun i _=>pn-(RowKit.intOf i).toNat)
   case atStart=>
    refine⟨0,rfl,Nat.zero_le _,?_⟩;rw[show TL++Lt sPiece (fun e=>I4 (S e)) (fun e=>2*sn e) 0=TL from List.append_nil _];exact hp0h
   case round=>
    obtain⟨m,rfl,hm,hq0⟩:=hrel;obtain⟨TM,hTM⟩:∃TM,Hid (TM=TL++Lt sPiece (fun e=>I4 (S e)) (fun e=>2*sn e) m):=⟨_,rfl⟩;rw[<-show TM=_ from hTM]at hq0;have hlM:Hid (TM.length<=300000000):=by
     show _<=_;rw[show TM=_ from hTM];exact(show∀k,k<=pn->(TL++Lt sPiece (fun e=>I4 (S e)) (fun e=>2*sn e) k).length<=300000000 from hT2) m hm
    by_cases hp:m<pn
    ·obtain⟨ha',hcb'⟩:=(show 0<pn->pa=some ⟨pb,po,none⟩∧pb<b from hpah) (by omega);subst ha';have hw:=(show∀l v,PI l v->WrI w2 b l v from hPIb) _ _ hq0;have d0:=(show∀e,e<pn->w2.cell? ⟨pb,po+e,none⟩=some (.slice (sa e) (sn e) (sc e))from hpsh) m hp;obtain⟨u1,u2,u3⟩:=(show∀e,e<pn->sn e<=900∧(0<sn e->sa e=some ⟨sb e,so e,none⟩∧sb e<b)∧∀i,i<sn e->∀c,c<4->w2.cell? ⟨sb e,so e+i*4+c,none⟩=some (.int .i64 (S e i c))from hsah) m hp;rw[<-hw.bel.cell (p:=⟨pb,po+m,none⟩) hcb']at d0;obtain⟨s5,hs5⟩:∃s5,wr.heap.size=s5:=⟨_,rfl⟩;have hs5h:Hid (wr.heap.size=s5):=hs5;have hbz:b<s5:=by have:=hw.bel.size;omega
     have hwh:Hid (WrI w2 b TM wr):=hw;have u2h:Hid (0<sn m->sa m=some ⟨sb m,so m,none⟩∧sb m<b):=u2;have u3h:Hid (∀i,i<sn m->∀c,c<4->w2.cell? ⟨sb m,so m+i*4+c,none⟩=some (.int .i64 (S m i c))):=u3;have hq0h:Hid (PI TM wr):=hq0;have hlt0:b0<s5:=by
      have:=(A1.1 ((show∀l v,PI l v->v.heap[b0]? =some (.cells #[c0,.slice ca k cc,.slice (some ⟨pb,po,none⟩) pn pcp,c3,.slice wa wn wcp,c5,c6,c7,c8,c9,c10,c11,c12,c13,c14] 39 (0,0))from hPId) _ _ hq0)).1;omega
     clear hw u2 u3 hT2 hs5 hq0
     go_wp2
     clear d0
     go_loopw [8,42] (fun e i wv=>∃q:Nat,i=.int .i64 q∧q<=sn m∧wv.ownsRow s5 123 2 e (2*q) (Xe (S m) q)∧Below s5 wr wv) (fun e i _=>sn m-(RowKit.intOf i).toNat)
     case atStart=>
      exact⟨0,rfl,Nat.zero_le _,World.ownsRow_nil _ _ _ _,by rw[<-show wr.heap.size=s5 from hs5h];exact Below.refl _ _⟩
     case round=>
      obtain⟨q,rfl,hq,hrow,hbv⟩:=hrel;have hwI:WrI w2 b TM wr:=(show WrI w2 b TM _ from hwh).step hb (by rw[show _=s5 from hs5h];exact hbv);have hz5:s5<=wr.heap.size:=by have:=hbv.size;rw[show _=s5 from hs5h]at this;exact this
      have hrowh:Hid (wr.ownsRow s5 123 2 u8 (2*q) (Xe (S m) q)):=hrow;by_cases hp3:q<sn m
      ·obtain⟨u4,u5⟩:=(show 0<sn m->sa m=some ⟨sb m,so m,none⟩∧sb m<b from u2h) (by omega);have dd:∀c,c<4->wr.cell? ⟨sb m,so m+q*4+c,none⟩=some (.int .i64 (S m q c)):=fun c hc=>(hwI.bel.cell (p:=⟨sb m,so m+q*4+c,none⟩) u5).trans ((show∀i,i<sn m->∀c,c<4->w2.cell? ⟨sb m,so m+i*4+c,none⟩=some (.int .i64 (S m i c))from u3h) q hp3 c hc);have d0:wr.cell? ⟨sb m,so m+q*4,none⟩=some (.int .i64 (S m q 0)):=dd 0 (by omega);have d1:=dd 1 (by omega);have d2:=dd 2 (by omega);have d3:=dd 3 (by omega);have hbvh:Hid (Below s5 _ wr):=hbv;have hnl:((wr.alloc (.cells #[.int .i64 (S m q 0),.int .i64 (S m q 1),.int .i64 (S m q 2),.int .i64 (S m q 3)] 125)).alloc (.cells #[.int .i64 (S m q 0),.int .i64 (S m q 1),.int .i64 (S m q 2),.int .i64 (S m q 3)] 123)).heap[wr.heap.size+1]? =some (.cells #[.int .i64 (S m q 0),.int .i64 (S m q 1),.int .i64 (S m q 2),.int .i64 (S m q 3)] 123 (0,0)):=by
        have h9:=BG (wr.alloc (.cells #[.int .i64 (S m q 0),.int .i64 (S m q 1),.int .i64 (S m q 2),.int .i64 (S m q 3)] 125)) (.cells #[.int .i64 (S m q 0),.int .i64 (S m q 1),.int .i64 (S m q 2),.int .i64 (S m q 3)] 123);rw[show(wr.alloc (.cells #[.int .i64 (S m q 0),.int .i64 (S m q 1),.int .i64 (S m q 2),.int .i64 (S m q 3)] 125)).heap.size=wr.heap.size+1 by simp]at h9;exact h9
       clear dd hwI hbv hrow;rw[u4]
       go_wp2_with (at_builtin;go_loud (refine wpList_append_lies _ rfl _ _ 57 rfl s5 123 i1 _ 2 16 Tryz.underlying57 hj hy0 hy1 hy2 rfl (by omega) u8 (2*q) (Xe (S m) q) rfl (((show wr.ownsRow s5 123 2 u8 (2*q) (Xe (S m) q)from hrowh).alloc _).alloc _) ⟨wr.heap.size+1,0,none⟩ 2 2 [.int .i64 (S m q 0),.int .i64 (S m q 1),.int .i64 (S m q 2),.int .i64 (S m q 3)] rfl rfl (World.news_of_block (cs:= #[.int .i64 (S m q 0),.int .i64 (S m q 1),.int .i64 (S m q 2),.int .i64 (S m q 3)]) (t:=123) (fr:=(0,0)) hnl) (by simp[Value.oneCell']) (by omega) (by unfold maxLen;omega) (by omega) (by simp;omega) (wr.heap.size+2) (by simp) ?_;intro g6 cap6 w6 hown6 hgrow hat6 hlt6))
       go_roundw
       case rel=>
        refine⟨q+1,by go_num,by omega,?_,?_⟩
        ·rw[show 2*(q+1)=2*q+2 by omega];exact hown6
        ·refine(show Below s5 _ wr from hbvh).trans ((((Below.refl s5 wr).alloc hz5 _).alloc (by simp;omega) _).grown hgrow (by simp;omega) (fun j hj=>?_));rcases(show wr.ownsRow s5 123 2 u8 (2*q) (Xe (S m) q)from hrowh).2 with⟨e,_⟩|⟨g,_,_,e,hg,_⟩
         ·rw[e]at hj;cases hj
         ·rw[e]at hj;cases hj;exact hg
       case measure=>simp[RowKit.intOf];omega
      ·have hqn:q=sn m:=by omega
       subst hqn;obtain⟨ea,ecap,eg,rfl,he1,he2⟩:=Vu (show wr.ownsRow s5 123 2 u8 (2*sn m) (Xe (S m) (sn m))from hrowh) hbz;have hct:=Tq hwI (show∀v,Below b w2 v->Wd v from hWh) hb sPiece ea eg 0 (2*sn m) ecap (I4 (S m)) he1 (SS (hr4 m)) he2 (by have h9:TM.length<=300000000:=hlM;have h8:sPiece.size=5:=rfl;omega);have hct2:Calls Tryz.prog 64 #[.pointer (some ⟨b,0,none⟩),.string sPiece,.slice ea (2*sn m) ecap] wr fun e w'=>e=.returned (.tuple #[])∧PI (TL++Lt sPiece (fun e=>I4 (S e)) (fun e=>2*sn e) (m+1)) w':=hct.mono fun e w' ⟨h1,h2,h3⟩=>⟨h1,by
        have hbx:=(show∀l v,PI l v->v.heap[b0]? =some (.cells #[c0,.slice ca k cc,.slice (some ⟨pb,po,none⟩) pn pcp,c3,.slice wa wn wcp,c5,c6,c7,c8,c9,c10,c11,c12,c13,c14] 39 (0,0))from hPId) _ _ hq0h;have hbx2:wr.heap[b0]? =some (.cells #[c0,.slice ca k cc,.slice (some ⟨pb,po,none⟩) pn pcp,c3,.slice wa wn wcp,c5,c6,c7,c8,c9,c10,c11,c12,c13,c14] 39 (0,0)):=by rw[hbv.block b0 hlt0];exact hbx
        refine(show∀l l' v v',PI l v->WrI w2 b l' v'->v'.heap[b0]? =v.heap[b0]? ->PI l' v' from hPIc) _ _ _ _ hq0h ?_ ?_
        ·have e9:TL++Lt sPiece (fun e=>I4 (S e)) (fun e=>2*sn e) (m+1)=TM++Ae sPiece++Ih (I4 (S m)) (2*sn m)++[10]:=by
          rw[show TM=_ from hTM,show Lt sPiece (fun e=>I4 (S e)) (fun e=>2*sn e) (m+1)=Lt sPiece (fun e=>I4 (S e)) (fun e=>2*sn e) m++(Ae sPiece++Ih (I4 (S m)) (2*sn m)++[10])from rfl];simp only[List.append_assoc]
         rw[e9];exact h2
        ·rw[hbx];exact h3 b0 _ hbx2 (fun e=>by have e:b0=b:=Option.some.inj e;omega) (fun c fz e=>by cases e)⟩
       clear he1 he2 hct hwI hbv hrow
       go_wp2_with (first|(go_at_call 64;refine hct2.mono ?_))
       rintro e w6 ⟨rfl,h6⟩
       go_wp2
       go_roundw
       case rel=>exact⟨m+1,by go_num,by omega,h6⟩
       case measure=>simp[RowKit.intOf];omega
    ·have hmn:m=pn:=by omega
     subst hmn;have hbx:=(show∀l v,PI l v->v.heap[b0]? =some (.cells #[c0,.slice ca k cc,.slice pa m pcp,c3,.slice wa wn wcp,c5,c6,c7,c8,c9,c10,c11,c12,c13,c14] 39 (0,0))from hPId) _ _ hq0;have f4:wr.cell? ⟨b0,4,none⟩=some (.slice wa wn wcp):=by rw[Lib.cell_of_heap hbx];rfl
     rw[<-show w.heap.size=b0 from hb0h]at f4;have hp0h2:Hid (PI TM wr):=hq0;clear hbx hq0 hT2
     go_wp2
     clear f4;have hT3:Hid (∀k,k<=wn->(TM++Lt sWorth Wq vn k).length<=500000000):=fun k hk=>by
      have h1:=Ll (word:=sWorth) (x:=Wq) (n:=vn) (by decide) hr5 k (fun e he=>by
       have:=((show∀e,e<wn->vn e<=900∧(0<vn e->va e=some ⟨vb e,vo e,none⟩∧vb e<b)∧∀j,j<vn e->w2.cell? ⟨vb e,vo e+j*2,none⟩=some (.int .i64 (Wq e j).1)∧w2.cell? ⟨vb e,vo e+j*2+1,none⟩=some (.int .i64 (Wq e j).2)from hvah) e (by omega)).1;omega)
      have h2:k*100000<=1000*100000:=AH _ (by omega);have h3:TM.length<=300000000:=hlM;rw[AG];omega
     go_loopw [62] (fun i wv=>∃q:Nat,i=.int .i64 q∧q<=wn∧PI (TM++Lt sWorth Wq vn q) wv) (fun i _=>wn-(RowKit.intOf i).toNat)
     case atStart=>
      refine⟨0,rfl,Nat.zero_le _,?_⟩;rw[show TM++Lt sWorth Wq vn 0=TM from List.append_nil _];exact hp0h2
     case round=>
      obtain⟨q,rfl,hq,hq0⟩:=hrel;obtain⟨TN,hTN⟩:∃TN,Hid (TN=TM++Lt sWorth Wq vn q):=⟨_,rfl⟩;rw[<-show TN=_ from hTN]at hq0;have hlN:Hid (TN.length<=500000000):=by
       show _<=_;rw[show TN=_ from hTN];exact(show∀k,k<=wn->(TM++Lt sWorth Wq vn k).length<=500000000 from hT3) q hq
      have hw:=(show∀l v,PI l v->WrI w2 b l v from hPIb) _ _ hq0;by_cases hp5:q<wn
      ·obtain⟨ha',hcb'⟩:=(show 0<wn->wa=some ⟨wb,wo,none⟩∧wb<b from hwah) (by omega);subst ha';have d0:=(show∀e,e<wn->w2.cell? ⟨wb,wo+e,none⟩=some (.slice (va e) (vn e) (vc e))from hwsh) q hp5;obtain⟨u1,u2,u3⟩:=(show∀e,e<wn->vn e<=900∧(0<vn e->va e=some ⟨vb e,vo e,none⟩∧vb e<b)∧∀j,j<vn e->w2.cell? ⟨vb e,vo e+j*2,none⟩=some (.int .i64 (Wq e j).1)∧w2.cell? ⟨vb e,vo e+j*2+1,none⟩=some (.int .i64 (Wq e j).2)from hvah) q hp5;rw[<-hw.bel.cell (p:=⟨wb,wo+q,none⟩) hcb']at d0;have hct:=Tq hw (show∀v,Below b w2 v->Wd v from hWh) hb sWorth (va q) (vb q) (vo q) (vn q) (vc q) (Wq q) (fun h=>(u2 h).1) (hr5 q) (fun w' h1 _ j hj=>by
        rw[(hw.bel.trans h1).cell (p:=⟨vb q,vo q+j*2,none⟩) (u2 (by omega)).2,(hw.bel.trans h1).cell (p:=⟨vb q,vo q+j*2+1,none⟩) (u2 (by omega)).2];exact u3 j hj) (by have h9:TN.length<=500000000:=hlN;have h8:sWorth.size=5:=rfl;omega)
       have hct2:Calls Tryz.prog 64 #[.pointer (some ⟨b,0,none⟩),.string sWorth,.slice (va q) (vn q) (vc q)] wr fun e w'=>e=.returned (.tuple #[])∧PI (TM++Lt sWorth Wq vn (q+1)) w':=hct.mono fun e w' ⟨h1,h2,h3⟩=>⟨h1,by
        have hbx:=(show∀l v,PI l v->v.heap[b0]? =some (.cells #[c0,.slice ca k cc,.slice pa m pcp,c3,.slice (some ⟨wb,wo,none⟩) wn wcp,c5,c6,c7,c8,c9,c10,c11,c12,c13,c14] 39 (0,0))from hPId) _ _ hq0;refine(show∀l l' v v',PI l v->WrI w2 b l' v'->v'.heap[b0]? =v.heap[b0]? ->PI l' v' from hPIc) _ _ _ _ hq0 ?_ ?_
        ·have e9:TM++Lt sWorth Wq vn (q+1)=TN++Ae sWorth++Ih (Wq q) (vn q)++[10]:=by
          rw[show TN=_ from hTN,show Lt sWorth Wq vn (q+1)=Lt sWorth Wq vn q++(Ae sWorth++Ih (Wq q) (vn q)++[10])from rfl];simp only[List.append_assoc]
         rw[e9];exact h2
        ·rw[hbx];exact h3 b0 _ hbx (fun e=>by have e:b0=b:=Option.some.inj e;omega) (fun c fz e=>by cases e)⟩
       clear hct hw u2 u3 hq0 hT3
       go_wp2_with (first|(go_at_call 64;refine hct2.mono ?_))
       rintro e w6 rfl h6
       go_wp2
       go_roundw
       case rel=>exact⟨q+1,by go_num,by omega,h6⟩
       case measure=>simp[RowKit.intOf];omega
      ·have hqn:q=wn:=by omega
       subst hqn;have hfin:Hid (WrI w2 b (L++F6 sCake (fun e=>JH (cl e) (un e) (U e) (Dv e)) (fun e=>1+un e+dn e) k++Lt sPiece (fun e=>I4 (S e)) (fun e=>2*sn e) m++Lt sWorth Wq vn q) wr):=by
        show WrI _ _ _ _;rw[show TN=_ from hTN,show TM=_ from hTM,show TL=_ from hTL]at hw;exact hw
       clear hw hq0 hT3
       go_wp2
       go_end0
       exact⟨rfl,hfin⟩
end Go.Proofs.YtnljjjghpgdmoaaGreatDoor

/- Part of a proof of a statement of this seat. No conditions. -/
import Derived.Test.YtkcnkimndhgkgaaGreatDoorXal
set_option linter.all false
namespace Go.Proofs.YtkcnkimndhgkgaaGreatDoor
open Go.Ev Go.Lib Go.RowKit
def sDocument:ByteArray:=⟨⟨[100,111,99,117,109,101,110,116,32]⟩⟩
def sValues:ByteArray:=⟨⟨[118,97,108,117,101,115]⟩⟩
def sGive:ByteArray:=⟨⟨[103,105,118,101]⟩⟩
def sClaims:ByteArray:=⟨⟨[99,108,97,105,109,115]⟩⟩
def sBalances:ByteArray:=⟨⟨[98,97,108,97,110,99,101,115]⟩⟩
def sPay:ByteArray:=⟨⟨[112,97,121]⟩⟩
def hdL(s:ByteArray):List UInt8:=by_ sDocument++by_ s++[10]
def lnL(word:ByteArray)(x:Nat->Nat->Int)(n:Nat->Nat):Nat->List UInt8
 |0=>[]
 |k+1=>lnL word x n k++(by_ word++nuL (x k) (n k)++[10])
def clL(n:Int):List UInt8:=by_ sClaims++nuL (fun _=>n) 1++[10]
def txS(ec:Int)(t:List UInt8):ByteArray:=bif ec !=0 then .empty else bif 60000<t.length then .empty else txt t
def txE(ec:Int)(t:List UInt8):Int:=bif ec !=0 then ec else bif 60000<t.length then 4 else 0
def goT(X:Nat->Nat->Int)(rn:Nat->Nat)(gn:Nat)(A:Nat->Int)(an:Nat)(c:Int):List UInt8:=hdL sGoods++lnL sValues X rn gn++(by_ sGive++nuL A an++[10])++clL c
theorem lnL_len{word:ByteArray}{x:Nat->Nat->Int}{n:Nat->Nat}(hw:word.size<=100)(hx:∀e j,iR (x e j)=true):∀k,(∀e,e<k->n e<=1000)->(lnL word x n k).length<=k*30000
 |0,_=>Nat.zero_le _
 |k+1,h=>by
  have h1:=lnL_len hw hx k (fun e he=>h e (by omega));have h2:=nuL_len (hx k) (n k);have h3:=h k (by omega);have h4:(by_ word).length=word.size:=(size_by word).symm;show(lnL word x n k++(by_ word++nuL (x k) (n k)++[10])).length<=_;rw[AG,AG,AG,List.length_singleton];omega
theorem idx_goods(v:World):(Instr.index 122 (.agg #[.string sCake,.string sGoods,.string sRent,.string sSettle]) (.int .u8 (IntKind.u8.wrap 1))).run Tryz.prog v=.ok (.string sGoods) v:=by kernel_rfl
theorem idx_settle(v:World):(Instr.index 122 (.agg #[.string sCake,.string sGoods,.string sRent,.string sSettle]) (.int .u8 (IntKind.u8.wrap 3))).run Tryz.prog v=.ok (.string sSettle) v:=by kernel_rfl
theorem alloc_new(w:World)(o:Obj):(w.alloc o).heap[w.heap.size]? =some o:=by
 show(w.heap.push o)[w.heap.size]? =_;simp
theorem alloc_lt(w:World)(o:Obj):w.heap.size<(w.alloc o).heap.size:=by
 show _<(w.heap.push o).size;simp
set_option maxHeartbeats 4000000 in
set_option maxRecDepth 1000000 in
theorem goods_walk(w:World)(c1 c2 c4 c7 c9 c10 c12 c13:Value)(pc rr ld cl:Int)(ga aa:Option Addr)(gn gc an ac gb goff ab ao:Nat)(ra:Nat->Option Addr)(rb ro rn rcp:Nat->Nat)(X:Nat->Nat->Int)(A:Nat->Int)(ec:Int)
  (hchk:∀w',Below w.heap.size w w'->Calls Tryz.prog 19 #[.agg #[.int .u8 2,c1,c2,.int .u8 pc,c4,.slice ga gn gc,.slice aa an ac,c7,.int .i64 rr,c9,c10,.int .i64 ld,c12,c13,.int .u8 cl]] w' fun e w''=>e=.returned (.int .i64 ec)∧Below w'.heap.size w' w'')
  (hWd:∀w',Below w.heap.size w w'->Wd w')
  (hga:0<gn->ga=some ⟨gb,goff,none⟩) (hgb:0<gn->gb<w.heap.size) (hg:∀e,e<gn->w.cell? ⟨gb,goff+e,none⟩=some (.slice (ra e) (rn e) (rcp e)))
  (hra:∀e,e<gn->0<rn e->ra e=some ⟨rb e,ro e,none⟩∧rb e<w.heap.size) (hr:∀e,e<gn->∀j,j<rn e->w.cell? ⟨rb e,ro e+j,none⟩=some (.int .i64 (X e j)))
  (haa:0<an->aa=some ⟨ab,ao,none⟩∧ab<w.heap.size) (ha:∀j,j<an->w.cell? ⟨ab,ao+j,none⟩=some (.int .i64 (A j)))
  (hX:∀e j,iR (X e j)=true) (hA:∀j,iR (A j)=true) (hl:ec=0->gn<=1000∧(∀e,e<gn->rn e<=1000)∧an<=1000) (hc:ec=0->0<=pc∧pc<=255∧0<=cl∧cl<=255):
  Calls Tryz.prog 23 #[.agg #[.int .u8 2,c1,c2,.int .u8 pc,c4,.slice ga gn gc,.slice aa an ac,c7,.int .i64 rr,c9,c10,.int .i64 ld,c12,c13,.int .u8 cl]] w fun e w'=>e=.returned (.tuple #[.string (txS ec (goT X rn gn A an (cl+pc))),.int .i64 (txE ec (goT X rn gn A an (cl+pc)))])∧Below w.heap.size w w':=by
 have mx:Tryz.prog.follows .mixedOrders=true:=mixed
 go_enter Tryz.func23,Tryz.ntmps23
 go_wp2_with (first|(go_at_call 19;refine(hchk _ ?_).mono ?_))
 ·exact(Below.refl _ w).alloc (AC _) _
 rintro e w1 ⟨rfl,hb1⟩;by_cases hec:ec=0
 rotate_left
 ·have hec2:(ec !=0)=true:=by simpa using hec
  go_wp2
  go_ret2
  unfold txS txE;rw[hec2];exact⟨rfl,((Below.refl _ w).alloc (AC _) _).trans (hb1.mono (by simp))⟩
 ·obtain⟨hl1,hl2,hl3⟩:=hl hec;obtain⟨p0,p1,q0,q1⟩:=hc hec;subst hec;clear hl hc
  go_wp2
  have hb0:Below w.heap.size w w1:=((Below.refl _ w).alloc (AC _) _).trans (hb1.mono (Nat.le_of_lt (alloc_lt w _)));have hN:w.heap.size<w1.heap.size:=Nat.lt_of_lt_of_le (alloc_lt w _) hb1.size;have hbox:w1.heap[w.heap.size]? =some (.cells #[.int .u8 2,c1,c2,.int .u8 pc,c4,.slice ga gn gc,.slice aa an ac,c7,.int .i64 rr,c9,c10,.int .i64 ld,c12,c13,.int .u8 cl] 60 (0,0)):=by
   rw[hb1.block w.heap.size (alloc_lt w _)];exact alloc_new w _
  obtain⟨w2,hw2⟩:∃w2,w2=w1.alloc (.cells #[.pointer none,.slice none 0 0] 117):=⟨_,rfl⟩;have hI0:WrI w2 w1.heap.size [] w2:=⟨Below.refl _ _,Lib.OthersKept.refl _ _ _,by rw[hw2];exact Lib.IsBuilderF.of (Lib.fresh_isBuilder 117 5 w1)⟩;have hb3:w1.heap.size<w2.heap.size:=by rw[hw2];exact alloc_lt w1 _
  have hb2:w1.heap.size<=w2.heap.size:=by rw[hw2];exact Nat.le_of_lt (alloc_lt w1 _)
  have hbel2:∀k,k<w1.heap.size->w2.heap[k]? =w1.heap[k]? :=fun k hk=>by rw[hw2];exact Below.heap_alloc w1 _ k hk
  have hbox2:∀v,Below w1.heap.size w2 v->v.heap[w.heap.size]? =some (.cells #[.int .u8 2,c1,c2,.int .u8 pc,c4,.slice ga gn gc,.slice aa an ac,c7,.int .i64 rr,c9,c10,.int .i64 ld,c12,c13,.int .u8 cl] 60 (0,0)):=fun v hv=>by
   rw[hv.block _ hN,hbel2 _ hN];exact hbox
  have hbv:∀v,Below w1.heap.size w2 v->Below w.heap.size w v:=fun v hv=>hb0.trans (((Below.refl _ w1).alloc (AC _) _).trans (hw2▸hv)|>.mono (by omega));have hW2:∀v,Below w1.heap.size w2 v->Wd v:=fun v hv=>hWd v (hbv v hv);rw[<-hw2];clear hw2 hbel2;generalize hbb:w1.heap.size=b at*
  obtain⟨Cq,hq1,hq2⟩:∃Cq:World->Prop,(∀v,Cq v->WrI w2 b [] v)∧∀v,WrI w2 b [] v->Cq v:=⟨fun v=>WrI w2 b [] v,fun _ h=>h,fun _ h=>h⟩;refine wp_region_quiet_tail (C:=Cq) 10 mx (by kernel_rfl) (hq2 w2.drew hI0.drew) ?_;have hq:Hid (∀v,Cq v->WrI w2 b [] v):=hq1;have hcall:∀v,Cq v->Calls Tryz.prog 53 #[] v fun e w'=>e=.returned (.agg #[.string sCake,.string sGoods,.string sRent,.string sSettle])∧Cq w':=fun v hv=>(kinds_I (hq1 v hv) hb2).mono fun e w' ⟨he,h⟩=>⟨he,hq2 _ h⟩;have hcl:Hid (∀v,Cq v->Calls Tryz.prog 53 #[] v fun e w'=>e=.returned (.agg #[.string sCake,.string sGoods,.string sRent,.string sSettle])∧Cq w'):=hcall;have hld:Hid (∀v,Cq v->v.cell? ⟨w.heap.size,0,none⟩=some (.int .u8 2)):=fun v hv=>by rw[Lib.cell_of_heap (hbox2 v (hq1 v hv).bel)];rfl
  have hhg:Hid (∀e,e<gn->w.cell? ⟨gb,goff+e,none⟩=some (.slice (ra e) (rn e) (rcp e))):=hg;have hhr:Hid (∀e,e<gn->∀j,j<rn e->w.cell? ⟨rb e,ro e+j,none⟩=some (.int .i64 (X e j))):=hr;have hha:Hid (∀j,j<an->w.cell? ⟨ab,ao+j,none⟩=some (.int .i64 (A j))):=ha;have hhra:Hid (∀e,e<gn->0<rn e->ra e=some ⟨rb e,ro e,none⟩∧rb e<w.heap.size):=hra;clear hq1 hq2 hcall hg hr ha hra hchk;dsimp only[List.take,List.drop];refine wpQuiet_step (fun K hK=>?_)
  go_simp
  refine⟨_,fun v hv=>rfl,hK _ ?_⟩;clear hK K;refine wpQuiet_step (fun K hK=>?_)
  go_simp
  refine⟨_,fun v hv=>rfl,hK _ ?_⟩;clear hK K;refine wpQuiet_step (fun K hK=>?_)
  go_simp
  refine⟨_,fun v hv=>rfl,hK _ ?_⟩;clear hK K;refine wpQuiet_step (fun K hK=>?_)
  go_simp
  refine⟨.agg #[.string sCake,.string sGoods,.string sRent,.string sSettle],fun v hv=>(show∀v,Cq v->Calls Tryz.prog 53 #[] v fun e w'=>e=.returned (.agg #[.string sCake,.string sGoods,.string sRent,.string sSettle])∧Cq w' from hcl) v hv,hK _ ?_⟩;clear hK K;refine wpQuiet_step (fun K hK=>?_)
  go_simp
  refine⟨_,fun v hv=>rfl,hK _ ?_⟩;clear hK K;refine wpQuiet_step (fun K hK=>?_)
  go_simp
  refine⟨.int .u8 2,fun v hv=>?_,hK _ ?_⟩
  ·rw[(show∀v,Cq v->v.cell? ⟨w.heap.size,0,none⟩=some (.int .u8 2)from hld) v hv];exact⟨rfl,rfl⟩
  clear hK K;refine wpQuiet_step (fun K hK=>?_)
  go_simp
  refine⟨_,fun v hv=>rfl,hK _ ?_⟩;clear hK K;refine wpQuiet_step (fun K hK=>?_)
  go_simp
  refine⟨.string sGoods,fun v hv=>?_,hK _ ?_⟩
  ·rw[idx_goods v];exact⟨rfl,rfl⟩
  clear hK K;refine wpQuiet_step (fun K hK=>?_)
  go_simp
  refine⟨.string (sDocument++sGoods),fun v hv=>?_,hK _ ?_⟩
  ·rw[AL (show¬9223372036854775807<9+sGoods.size by have:sGoods.size=5:=rfl;omega)];exact⟨rfl,rfl⟩
  clear hK K;refine wpQuiet_step (fun K hK=>?_)
  go_simp
  refine⟨.string (sDocument++sGoods++⟨#[10]⟩),fun v hv=>?_,hK _ ?_⟩
  ·rw[AL (show¬9223372036854775807<sDocument.size+sGoods.size+1 by have:sGoods.size=5:=rfl;have:sDocument.size=9:=rfl;omega)];exact⟨rfl,rfl⟩
  clear hK K;refine wpQuiet_nil ?_;intro w3 h3;have h3':WrI w2 b [] w3:=(show∀v,Cq v->WrI w2 b [] v from hq) w3 h3;have hsz:([]:List UInt8).length+(sDocument++sGoods++⟨#[10]⟩).size<=140737488355328:=by decide
  have hS:[]++by_ (sDocument++sGoods++⟨#[10]⟩)=hdL sGoods:=by rw[by_app,by_app];rfl
  generalize sDocument++sGoods++⟨#[10]⟩=S at*
  clear hq hcl hld h3
  go_wp2_with (first|(go_at_call 52;refine(write_I h3' hb2 S hsz).mono ?_))
  rintro e w4 ⟨rfl,h4⟩;rw[hS]at h4;clear hS hsz h3';have f0:w4.cell? ⟨w.heap.size,0,none⟩=some (.int .u8 2):=by rw[Lib.cell_of_heap (hbox2 w4 h4.bel)];rfl
  have f5:w4.cell? ⟨w.heap.size,5,none⟩=some (.slice ga gn gc):=by rw[Lib.cell_of_heap (hbox2 w4 h4.bel)];rfl
  go_wp2
  have hL:∀k,k<=gn->(hdL sGoods++lnL sValues X rn k).length<=40000000:=fun k hk=>by
   have h1:=lnL_len (word:=sValues) (by decide) hX k (fun e he=>hl2 e (by omega));have h2:(hdL sGoods).length=15:=rfl;have h3:k*30000<=1000*30000:=AH _ (by omega);rw[AG];omega
  have hold:∀v,Below b w2 v->∀p:Addr,p.block<w.heap.size->v.cell? p=w.cell? p:=fun v hv p hp=>(hbv v hv).cell hp;have hh1:Hid (∀v,Below b w2 v->∀p:Addr,p.block<w.heap.size->v.cell? p=w.cell? p):=hold;have hh2:Hid (∀v,Below b w2 v->v.heap[w.heap.size]? =some (.cells #[.int .u8 2,c1,c2,.int .u8 pc,c4,.slice ga gn gc,.slice aa an ac,c7,.int .i64 rr,c9,c10,.int .i64 ld,c12,c13,.int .u8 cl] 60 (0,0))):=hbox2;clear hold hbox2 f0 f5
  go_loopw [43] (fun i wr=>∃k:Nat,i=.int .i64 k∧k<=gn∧WrI w2 b (hdL sGoods++lnL sValues X rn k) wr) (fun i _=>gn-(RowKit.intOf i).toNat)
  case atStart=>
   exact⟨0,rfl,Nat.zero_le _,by simpa [lnL]using h4⟩
  case round=>
   obtain⟨k,rfl,hk,h5⟩:=hrel;by_cases hp:k<gn
   ·have ha':=hga (by omega);have hgb':=hgb (by omega);subst ha';have d0:wr.cell? ⟨gb,goff+k,none⟩=some (.slice (ra k) (rn k) (rcp k)):=by
     rw[(show∀v,Below b w2 v->∀p:Addr,p.block<w.heap.size->v.cell? p=w.cell? p from hh1) wr h5.bel ⟨gb,goff+k,none⟩ hgb'];exact(show∀e,e<gn->w.cell? ⟨gb,goff+e,none⟩=some (.slice (ra e) (rn e) (rcp e))from hhg) k hp
    have e1:0<rn k->ra k=some ⟨rb k,ro k,none⟩:=fun h=>((show∀e,e<gn->0<rn e->ra e=some ⟨rb e,ro e,none⟩∧rb e<w.heap.size from hhra) k hp h).1;have e2:0<rn k->rb k<b:=fun h=>Nat.lt_trans ((show∀e,e<gn->0<rn e->ra e=some ⟨rb e,ro e,none⟩∧rb e<w.heap.size from hhra) k hp h).2 (by omega);have e3:Hid (∀j,j<rn k->w2.cell? ⟨rb k,ro k+j,none⟩=some (.int .i64 (X k j))):=fun j hj=>by
     rw[(show∀v,Below b w2 v->∀p:Addr,p.block<w.heap.size->v.cell? p=w.cell? p from hh1) w2 (Below.refl _ _) ⟨rb k,ro k+j,none⟩ ((show∀e,e<gn->0<rn e->ra e=some ⟨rb e,ro e,none⟩∧rb e<w.heap.size from hhra) k hp (by omega)).2];exact(show∀e,e<gn->∀j,j<rn e->w.cell? ⟨rb e,ro e+j,none⟩=some (.int .i64 (X e j))from hhr) k hp j hj
    have e4:(hdL sGoods++lnL sValues X rn k).length+sValues.size+rn k*22<=1000000000000:=by
     have h1:=hL k (by omega);have h2:=hl2 k hp;have h3:sValues.size=6:=rfl;omega
    go_wp2_with (first|(go_at_call 55;refine(ints_old h5 hW2 hb2 sValues (ra k) (rb k) (ro k) (rn k) (rcp k) (X k) e1 (hX k) e2 e3 e4).mono ?_;rintro e w6 ⟨rfl,h6⟩))
    go_wp2
    go_roundw
    case rel=>
     refine⟨k+1,by go_num,by omega,?_⟩;rw[show lnL sValues X rn (k+1)=lnL sValues X rn k++(by_ sValues++nuL (X k) (rn k)++[10])from rfl];rw[show hdL sGoods++(lnL sValues X rn k++(by_ sValues++nuL (X k) (rn k)++[10]))=hdL sGoods++lnL sValues X rn k++by_ sValues++nuL (X k) (rn k)++[10] by simp only[List.append_assoc]];exact h6
    case measure=>
     simp[RowKit.intOf];omega
   ·have hkn:k=gn:=by omega
    subst hkn;have f6:wr.cell? ⟨w.heap.size,6,none⟩=some (.slice aa an ac):=by
     rw[Lib.cell_of_heap ((show∀v,Below b w2 v->v.heap[w.heap.size]? =some (.cells #[.int .u8 2,c1,c2,.int .u8 pc,c4,.slice ga k gc,.slice aa an ac,c7,.int .i64 rr,c9,c10,.int .i64 ld,c12,c13,.int .u8 cl] 60 (0,0))from hh2) wr h5.bel)];rfl
    have e1:0<an->aa=some ⟨ab,ao,none⟩:=fun h=>(haa h).1;have e2:0<an->ab<b:=fun h=>Nat.lt_trans (haa h).2 (by omega);have e3:Hid (∀j,j<an->w2.cell? ⟨ab,ao+j,none⟩=some (.int .i64 (A j))):=fun j hj=>by
     rw[(show∀v,Below b w2 v->∀p:Addr,p.block<w.heap.size->v.cell? p=w.cell? p from hh1) w2 (Below.refl _ _) ⟨ab,ao+j,none⟩ (haa (by omega)).2];exact(show∀j,j<an->w.cell? ⟨ab,ao+j,none⟩=some (.int .i64 (A j))from hha) j hj
    have e4:(hdL sGoods++lnL sValues X rn k).length+sGive.size+an*22<=1000000000000:=by
     have h1:=hL k (by omega);have h3:sGive.size=4:=rfl;omega
    have hbx:Hid (∀v L,WrI w2 b L v->v.cell? ⟨w.heap.size,14,none⟩=some (.int .u8 cl)∧v.cell? ⟨w.heap.size,3,none⟩=some (.int .u8 pc)):=fun v L hv=>by
     rw[Lib.cell_of_heap ((show∀v,Below b w2 v->v.heap[w.heap.size]? =some (.cells #[.int .u8 2,c1,c2,.int .u8 pc,c4,.slice ga k gc,.slice aa an ac,c7,.int .i64 rr,c9,c10,.int .i64 ld,c12,c13,.int .u8 cl] 60 (0,0))from hh2) v hv.bel),Lib.cell_of_heap ((show∀v,Below b w2 v->v.heap[w.heap.size]? =some (.cells #[.int .u8 2,c1,c2,.int .u8 pc,c4,.slice ga k gc,.slice aa an ac,c7,.int .i64 rr,c9,c10,.int .i64 ld,c12,c13,.int .u8 cl] 60 (0,0))from hh2) v hv.bel)];exact⟨rfl,rfl⟩
    have i1:∀j:Nat,iR ((fun _:Nat=>cl+pc) j)=true:=fun j=>iR_iff.2 ⟨by dsimp only;omega,by dsimp only;omega⟩;have i2:Hid (∀j,j<1->(#[Value.int .i64 (cl+pc)]:Array Value)[j]? =some (.int .i64 ((fun _:Nat=>cl+pc) j))):=fun j hj=>by
     have:j=0:=by omega
     subst this;rfl
    have i3:(hdL sGoods++lnL sValues X rn k++by_ sGive++nuL A an++[10]).length+sClaims.size+1*22<=1000000000000:=by
     have h1:=nuL_len hA an;have h2:=hL k (by omega);have h3:sClaims.size=6:=rfl;have h4:(by_ sGive).length=4:=rfl;rw[AG,AG,AG,List.length_singleton];omega
    clear hL;have f0:Hid (b<w2.heap.size):=hb3;clear hb3
    go_wp2_with (first|(go_at_call 55;refine(ints_old h5 hW2 hb2 sGive aa ab ao an ac A e1 hA e2 e3 e4).mono ?_))
    rintro e w6 rfl h6;clear e1 e2 e3 e4;obtain⟨L6,hL6⟩:∃L6,L6=hdL sGoods++(lnL sValues X rn k++(by_ sGive++(nuL A an++[10]))):=⟨_,rfl⟩;rw[<-hL6]at h6;have hT2:Hid (L6++by_ sClaims++nuL (fun _=>cl+pc) 1++[10]=goT X rn k A an (cl+pc)):=by
     show _=_;rw[hL6];simp only[goT,clL,List.append_assoc]
    have i3':L6.length+sClaims.size+1*22<=1000000000000:=by
     rw[hL6];simp only[List.append_assoc]at i3;exact i3
    clear i3 hL6;obtain⟨f14,f3⟩:=(show∀v L,WrI w2 b L v->v.cell? ⟨w.heap.size,14,none⟩=some (.int .u8 cl)∧v.cell? ⟨w.heap.size,3,none⟩=some (.int .u8 pc)from hbx) w6 _ h6;have i4:w6.heap.size≠b:=by have:=h6.bel.size;have h:b<w2.heap.size:=f0;omega
    have h6a:=h6.alloc hb2 (.cells #[.int .i64 (cl+pc)] 3);have h6n:Hid ((w6.alloc (.cells #[.int .i64 (cl+pc)] 3)).heap[w6.heap.size]? =some (.cells #[.int .i64 (cl+pc)] 3 (0,0))):=alloc_new w6 _
    go_wp2_with (first|(go_at_call 55;refine(ints_new h6a hW2 hb2 sClaims w6.heap.size 1 1 (fun _=>cl+pc) #[.int .i64 (cl+pc)] (0,0) i1 i4 h6n i2 i3').mono ?_))
    rintro e w7 ⟨rfl,h7⟩;obtain⟨T,hT⟩:∃T,T=L6++by_ sClaims++nuL (fun _=>cl+pc) 1++[10]:=⟨_,rfl⟩;rw[<-hT]at h7;have hT3:Hid (goT X rn k A an (cl+pc)=T):=by
     show _=_;rw[hT];exact(show L6++by_ sClaims++nuL (fun _=>cl+pc) 1++[10]=goT X rn k A an (cl+pc)from hT2).symm
    have hne:T≠[]:=by rw[hT];simp
    have hbz:Below w.heap.size w w7:=hbv w7 h7.bel;clear hT hT2 f14 f3 h6 h6a h6n i1 i2 i3' i4 hbx
    go_wp2_with (first|(go_at_call 56;refine(wr_len b b T _ h7.bld).mono ?_))
    rintro e w8 ⟨rfl,rfl⟩;have hfin:Hid (∀v,Below b w8 v->Below w.heap.size w v):=fun v hv=>hbz.trans (hv.mono (by omega));by_cases hbig:60000<T.length
    ·have hdb:decide (60000<T.length)=true:=A4 hbig;have hd2:Hid (decide (60000<T.length)=true):=hdb;clear hdb
     go_wp2
     go_ret2
     rw[show goT X rn k A an (cl+pc)=T from hT3];unfold txS txE;rw[show decide (60000<T.length)=true from hd2];exact⟨rfl,hbz⟩
    ·have hd2:Hid (decide (60000<T.length)=false):=AB hbig
     go_wp2_with (first|(go_at_call 57;refine(wr_text b b T _ h7.bld hne).mono ?_))
     rintro e w9 ⟨rfl,h9⟩
     go_wp2
     go_ret2
     rw[show goT X rn k A an (cl+pc)=T from hT3];unfold txS txE;rw[show decide (60000<T.length)=false from hd2];exact⟨rfl,(show∀v,Below b w8 v->Below w.heap.size w v from hfin) w9 h9⟩
def seT(A:Nat->Int)(an:Nat)(P:Nat->Nat->Int)(pn:Nat)(c:Int):List UInt8:=hdL sSettle++(by_ sBalances++nuL A an++[10])++lnL sPay P (fun _=>3) pn++clL c
set_option maxHeartbeats 4000000 in
set_option maxRecDepth 1000000 in
theorem settle_walk(w:World)(c1 c2 c4 c5 c6 c7 c9 c10:Value)(pc rr ld cl:Int)(ga aa:Option Addr)(gn gc an ac gb goff ab ao:Nat)(P:Nat->Nat->Int)(A:Nat->Int)(ec:Int)
  (hchk:∀w',Below w.heap.size w w'->Calls Tryz.prog 19 #[.agg #[.int .u8 4,c1,c2,.int .u8 pc,c4,c5,c6,c7,.int .i64 rr,c9,c10,.int .i64 ld,.slice aa an ac,.slice ga gn gc,.int .u8 cl]] w' fun e w''=>e=.returned (.int .i64 ec)∧Below w'.heap.size w' w'')
  (hWd:∀w',Below w.heap.size w w'->Wd w')
  (hga:0<gn->ga=some ⟨gb,goff,none⟩) (hgb:0<gn->gb<w.heap.size) (hg:∀e,e<gn->∀i,i<3->w.cell? ⟨gb,goff+e*3+i,none⟩=some (.int .i64 (P e i)))
  (haa:0<an->aa=some ⟨ab,ao,none⟩∧ab<w.heap.size) (ha:∀j,j<an->w.cell? ⟨ab,ao+j,none⟩=some (.int .i64 (A j)))
  (hX:∀e j,iR (P e j)=true) (hA:∀j,iR (A j)=true) (hl:ec=0->gn<=1000∧an<=1000) (hc:ec=0->0<=pc∧pc<=255∧0<=cl∧cl<=255):
  Calls Tryz.prog 23 #[.agg #[.int .u8 4,c1,c2,.int .u8 pc,c4,c5,c6,c7,.int .i64 rr,c9,c10,.int .i64 ld,.slice aa an ac,.slice ga gn gc,.int .u8 cl]] w fun e w'=>e=.returned (.tuple #[.string (txS ec (seT A an P gn (cl+pc))),.int .i64 (txE ec (seT A an P gn (cl+pc)))])∧Below w.heap.size w w':=by
 have mx:Tryz.prog.follows .mixedOrders=true:=mixed
 go_enter Tryz.func23,Tryz.ntmps23
 go_wp2_with (first|(go_at_call 19;refine(hchk _ ?_).mono ?_))
 ·exact(Below.refl _ w).alloc (AC _) _
 rintro e w1 ⟨rfl,hb1⟩;by_cases hec:ec=0
 rotate_left
 ·have hec2:(ec !=0)=true:=by simpa using hec
  go_wp2
  go_ret2
  unfold txS txE;rw[hec2];exact⟨rfl,((Below.refl _ w).alloc (AC _) _).trans (hb1.mono (by simp))⟩
 ·obtain⟨hl1,hl3⟩:=hl hec;obtain⟨p0,p1,q0,q1⟩:=hc hec;subst hec;clear hl hc
  go_wp2
  have hb0:Below w.heap.size w w1:=((Below.refl _ w).alloc (AC _) _).trans (hb1.mono (Nat.le_of_lt (alloc_lt w _)));have hN:w.heap.size<w1.heap.size:=Nat.lt_of_lt_of_le (alloc_lt w _) hb1.size;have hbox:w1.heap[w.heap.size]? =some (.cells #[.int .u8 4,c1,c2,.int .u8 pc,c4,c5,c6,c7,.int .i64 rr,c9,c10,.int .i64 ld,.slice aa an ac,.slice ga gn gc,.int .u8 cl] 60 (0,0)):=by
   rw[hb1.block w.heap.size (alloc_lt w _)];exact alloc_new w _
  obtain⟨w2,hw2⟩:∃w2,w2=w1.alloc (.cells #[.pointer none,.slice none 0 0] 117):=⟨_,rfl⟩;have hI0:WrI w2 w1.heap.size [] w2:=⟨Below.refl _ _,Lib.OthersKept.refl _ _ _,by rw[hw2];exact Lib.IsBuilderF.of (Lib.fresh_isBuilder 117 5 w1)⟩;have hb3:w1.heap.size<w2.heap.size:=by rw[hw2];exact alloc_lt w1 _
  have hb2:w1.heap.size<=w2.heap.size:=by rw[hw2];exact Nat.le_of_lt (alloc_lt w1 _)
  have hbel2:∀k,k<w1.heap.size->w2.heap[k]? =w1.heap[k]? :=fun k hk=>by rw[hw2];exact Below.heap_alloc w1 _ k hk
  have hbox2:∀v,Below w1.heap.size w2 v->v.heap[w.heap.size]? =some (.cells #[.int .u8 4,c1,c2,.int .u8 pc,c4,c5,c6,c7,.int .i64 rr,c9,c10,.int .i64 ld,.slice aa an ac,.slice ga gn gc,.int .u8 cl] 60 (0,0)):=fun v hv=>by
   rw[hv.block _ hN,hbel2 _ hN];exact hbox
  have hbv:∀v,Below w1.heap.size w2 v->Below w.heap.size w v:=fun v hv=>hb0.trans (((Below.refl _ w1).alloc (AC _) _).trans (hw2▸hv)|>.mono (by omega));have hW2:∀v,Below w1.heap.size w2 v->Wd v:=fun v hv=>hWd v (hbv v hv);rw[<-hw2];clear hw2 hbel2;generalize hbb:w1.heap.size=b at*
  obtain⟨Cq,hq1,hq2⟩:∃Cq:World->Prop,(∀v,Cq v->WrI w2 b [] v)∧∀v,WrI w2 b [] v->Cq v:=⟨fun v=>WrI w2 b [] v,fun _ h=>h,fun _ h=>h⟩;refine wp_region_quiet_tail (C:=Cq) 10 mx (by kernel_rfl) (hq2 w2.drew hI0.drew) ?_;have hq:Hid (∀v,Cq v->WrI w2 b [] v):=hq1;have hcall:∀v,Cq v->Calls Tryz.prog 53 #[] v fun e w'=>e=.returned (.agg #[.string sCake,.string sGoods,.string sRent,.string sSettle])∧Cq w':=fun v hv=>(kinds_I (hq1 v hv) hb2).mono fun e w' ⟨he,h⟩=>⟨he,hq2 _ h⟩;have hcl:Hid (∀v,Cq v->Calls Tryz.prog 53 #[] v fun e w'=>e=.returned (.agg #[.string sCake,.string sGoods,.string sRent,.string sSettle])∧Cq w'):=hcall;have hld:Hid (∀v,Cq v->v.cell? ⟨w.heap.size,0,none⟩=some (.int .u8 4)):=fun v hv=>by rw[Lib.cell_of_heap (hbox2 v (hq1 v hv).bel)];rfl
  have hhg:Hid (∀e,e<gn->∀i,i<3->w.cell? ⟨gb,goff+e*3+i,none⟩=some (.int .i64 (P e i))):=hg;have hha:Hid (∀j,j<an->w.cell? ⟨ab,ao+j,none⟩=some (.int .i64 (A j))):=ha;clear hq1 hq2 hcall hg ha hchk;dsimp only[List.take,List.drop];refine wpQuiet_step (fun K hK=>?_)
  go_simp
  refine⟨_,fun v hv=>rfl,hK _ ?_⟩;clear hK K;refine wpQuiet_step (fun K hK=>?_)
  go_simp
  refine⟨_,fun v hv=>rfl,hK _ ?_⟩;clear hK K;refine wpQuiet_step (fun K hK=>?_)
  go_simp
  refine⟨_,fun v hv=>rfl,hK _ ?_⟩;clear hK K;refine wpQuiet_step (fun K hK=>?_)
  go_simp
  refine⟨.agg #[.string sCake,.string sGoods,.string sRent,.string sSettle],fun v hv=>(show∀v,Cq v->Calls Tryz.prog 53 #[] v fun e w'=>e=.returned (.agg #[.string sCake,.string sGoods,.string sRent,.string sSettle])∧Cq w' from hcl) v hv,hK _ ?_⟩;clear hK K;refine wpQuiet_step (fun K hK=>?_)
  go_simp
  refine⟨_,fun v hv=>rfl,hK _ ?_⟩;clear hK K;refine wpQuiet_step (fun K hK=>?_)
  go_simp
  refine⟨.int .u8 4,fun v hv=>?_,hK _ ?_⟩
  ·rw[(show∀v,Cq v->v.cell? ⟨w.heap.size,0,none⟩=some (.int .u8 4)from hld) v hv];exact⟨rfl,rfl⟩
  clear hK K;refine wpQuiet_step (fun K hK=>?_)
  go_simp
  refine⟨_,fun v hv=>rfl,hK _ ?_⟩;clear hK K;refine wpQuiet_step (fun K hK=>?_)
  go_simp
  refine⟨.string sSettle,fun v hv=>?_,hK _ ?_⟩
  ·rw[idx_settle v];exact⟨rfl,rfl⟩
  clear hK K;refine wpQuiet_step (fun K hK=>?_)
  go_simp
  refine⟨.string (sDocument++sSettle),fun v hv=>?_,hK _ ?_⟩
  ·rw[AL (show¬9223372036854775807<9+sSettle.size by have:sSettle.size=6:=rfl;omega)];exact⟨rfl,rfl⟩
  clear hK K;refine wpQuiet_step (fun K hK=>?_)
  go_simp
  refine⟨.string (sDocument++sSettle++⟨#[10]⟩),fun v hv=>?_,hK _ ?_⟩
  ·rw[AL (show¬9223372036854775807<sDocument.size+sSettle.size+1 by have:sSettle.size=6:=rfl;have:sDocument.size=9:=rfl;omega)];exact⟨rfl,rfl⟩
  clear hK K;refine wpQuiet_nil ?_;intro w3 h3;have h3':WrI w2 b [] w3:=(show∀v,Cq v->WrI w2 b [] v from hq) w3 h3;have hsz:([]:List UInt8).length+(sDocument++sSettle++⟨#[10]⟩).size<=140737488355328:=by decide
  have hS:[]++by_ (sDocument++sSettle++⟨#[10]⟩)=hdL sSettle:=by rw[by_app,by_app];rfl
  generalize sDocument++sSettle++⟨#[10]⟩=S at*
  clear hq hcl hld h3
  go_wp2_with (first|(go_at_call 52;refine(write_I h3' hb2 S hsz).mono ?_))
  rintro e w4 ⟨rfl,h4⟩;rw[hS]at h4;clear hS hsz h3';have f0:w4.cell? ⟨w.heap.size,0,none⟩=some (.int .u8 4):=by rw[Lib.cell_of_heap (hbox2 w4 h4.bel)];rfl
  have f12:w4.cell? ⟨w.heap.size,12,none⟩=some (.slice aa an ac):=by rw[Lib.cell_of_heap (hbox2 w4 h4.bel)];rfl
  have e1:0<an->aa=some ⟨ab,ao,none⟩:=fun h=>(haa h).1;have e2:0<an->ab<b:=fun h=>Nat.lt_trans (haa h).2 (by omega);have hold:∀v,Below b w2 v->∀p:Addr,p.block<w.heap.size->v.cell? p=w.cell? p:=fun v hv p hp=>(hbv v hv).cell hp;have hh1:Hid (∀v,Below b w2 v->∀p:Addr,p.block<w.heap.size->v.cell? p=w.cell? p):=hold;have hh2:Hid (∀v,Below b w2 v->v.heap[w.heap.size]? =some (.cells #[.int .u8 4,c1,c2,.int .u8 pc,c4,c5,c6,c7,.int .i64 rr,c9,c10,.int .i64 ld,.slice aa an ac,.slice ga gn gc,.int .u8 cl] 60 (0,0))):=hbox2;have e3:Hid (∀j,j<an->w2.cell? ⟨ab,ao+j,none⟩=some (.int .i64 (A j))):=fun j hj=>by
   rw[(show∀v,Below b w2 v->∀p:Addr,p.block<w.heap.size->v.cell? p=w.cell? p from hh1) w2 (Below.refl _ _) ⟨ab,ao+j,none⟩ (haa (by omega)).2];exact(show∀j,j<an->w.cell? ⟨ab,ao+j,none⟩=some (.int .i64 (A j))from hha) j hj
  have e4:(hdL sSettle).length+sBalances.size+an*22<=1000000000000:=by
   have h2:(hdL sSettle).length=16:=rfl;have h3:sBalances.size=8:=rfl;omega
  clear hold hbox2
  go_wp2_with (first|(go_at_call 55;refine(ints_old h4 hW2 hb2 sBalances aa ab ao an ac A e1 hA e2 e3 e4).mono ?_))
  rintro e w5 ⟨rfl,h5⟩;clear e1 e2 e3 e4 f12 f0;have f13:w5.cell? ⟨w.heap.size,13,none⟩=some (.slice ga gn gc):=by rw[Lib.cell_of_heap ((show∀v,Below b w2 v->v.heap[w.heap.size]? =some (.cells #[.int .u8 4,c1,c2,.int .u8 pc,c4,c5,c6,c7,.int .i64 rr,c9,c10,.int .i64 ld,.slice aa an ac,.slice ga gn gc,.int .u8 cl] 60 (0,0))from hh2) w5 h5.bel)];rfl
  obtain⟨L5,hL5⟩:∃L5,L5=hdL sSettle++by_ sBalances++nuL A an++[10]:=⟨_,rfl⟩;rw[<-hL5]at h5;have hLl:L5.length<=1000000:=by
   have h1:=nuL_len hA an;have h2:(hdL sSettle).length=16:=rfl;have h3:(by_ sBalances).length=8:=rfl;rw[hL5,AG,AG,AG,List.length_singleton];omega
  have hL5':Hid (L5=hdL sSettle++by_ sBalances++nuL A an++[10]):=hL5;clear hL5
  go_wp2
  clear f13
  go_loopw [99] (fun i wr=>∃k:Nat,i=.int .i64 k∧k<=gn∧WrI w2 b (L5++lnL sPay P (fun _=>3) k) wr) (fun i _=>gn-(RowKit.intOf i).toNat)
  case atStart=>
   exact⟨0,rfl,Nat.zero_le _,by simpa [lnL]using h5⟩
  case round=>
   obtain⟨k,rfl,hk,h6⟩:=hrel;by_cases hp:k<gn
   ·have ha':=hga (by omega);have hgb':=hgb (by omega);subst ha';have hd:Hid (∀i,i<3->wr.cell? ⟨gb,goff+k*3+i,none⟩=some (.int .i64 (P k i))):=fun i hi=>by
     rw[(show∀v,Below b w2 v->∀p:Addr,p.block<w.heap.size->v.cell? p=w.cell? p from hh1) wr h6.bel ⟨gb,goff+k*3+i,none⟩ hgb'];exact(show∀e,e<gn->∀i,i<3->w.cell? ⟨gb,goff+e*3+i,none⟩=some (.int .i64 (P e i))from hhg) k hp i hi
    have d0:wr.cell? ⟨gb,goff+k*3,none⟩=some (.int .i64 (P k 0)):=(show∀i,i<3->wr.cell? ⟨gb,goff+k*3+i,none⟩=some (.int .i64 (P k i))from hd) 0 (by omega);have d1:wr.cell? ⟨gb,goff+k*3+1,none⟩=some (.int .i64 (P k 1)):=(show∀i,i<3->wr.cell? ⟨gb,goff+k*3+i,none⟩=some (.int .i64 (P k i))from hd) 1 (by omega);have d2:wr.cell? ⟨gb,goff+k*3+2,none⟩=some (.int .i64 (P k 2)):=(show∀i,i<3->wr.cell? ⟨gb,goff+k*3+i,none⟩=some (.int .i64 (P k i))from hd) 2 (by omega);have h6a:=(h6.alloc hb2 (.cells #[.int .i64 (P k 0),.int .i64 (P k 1),.int .i64 (P k 2)] 127)).alloc hb2 (.cells #[.int .i64 (P k 0),.int .i64 (P k 1),.int .i64 (P k 2)] 3);have hs1:(wr.alloc (.cells #[.int .i64 (P k 0),.int .i64 (P k 1),.int .i64 (P k 2)] 127)).heap.size=wr.heap.size+1:=by
     show(wr.heap.push _).size=_;simp
    have h6n:Hid (((wr.alloc (.cells #[.int .i64 (P k 0),.int .i64 (P k 1),.int .i64 (P k 2)] 127)).alloc (.cells #[.int .i64 (P k 0),.int .i64 (P k 1),.int .i64 (P k 2)] 3)).heap[wr.heap.size+1]? =some (.cells #[.int .i64 (P k 0),.int .i64 (P k 1),.int .i64 (P k 2)] 3 (0,0))):=by
     have:=alloc_new (wr.alloc (.cells #[.int .i64 (P k 0),.int .i64 (P k 1),.int .i64 (P k 2)] 127)) (.cells #[.int .i64 (P k 0),.int .i64 (P k 1),.int .i64 (P k 2)] 3);rw[hs1]at this;exact this
    have i4:wr.heap.size+1≠b:=by have:=h6.bel.size;omega
    have i2:Hid (∀j,j<3->(#[Value.int .i64 (P k 0),Value.int .i64 (P k 1),Value.int .i64 (P k 2)]:Array Value)[j]? =some (.int .i64 (P k j))):=fun j hj=>by
     match j,hj with
     |0,_=>rfl
     |1,_=>rfl
     |2,_=>rfl
    have i3:(L5++lnL sPay P (fun _=>3) k).length+sPay.size+3*22<=1000000000000:=by
     have h1:=lnL_len (word:=sPay) (by decide) hX k (n:=fun _=>3) (fun e he=>(by show(3:Nat)<=1000;omega));have h2:k*30000<=1000*30000:=AH _ (by omega);have h3:sPay.size=3:=rfl;rw[AG];omega
    clear hs1
    go_wp2_with (first|(go_at_call 55;refine(ints_new h6a hW2 hb2 sPay (wr.heap.size+1) 3 3 (P k) #[.int .i64 (P k 0),.int .i64 (P k 1),.int .i64 (P k 2)] (0,0) (hX k) i4 h6n i2 i3).mono ?_))
    rintro e w7 rfl h7;clear h6n h6a i4 i2 i3
    go_wp2
    go_roundw
    case rel=>
     refine⟨k+1,by go_num,by omega,?_⟩;rw[show lnL sPay P (fun _=>3) (k+1)=lnL sPay P (fun _=>3) k++(by_ sPay++nuL (P k) 3++[10])from rfl];simpa only[List.append_assoc]using h7
    case measure=>
     simp[RowKit.intOf];omega
   ·have hkn:k=gn:=by omega
    subst hkn;have hbx:Hid (∀v L,WrI w2 b L v->v.cell? ⟨w.heap.size,14,none⟩=some (.int .u8 cl)∧v.cell? ⟨w.heap.size,3,none⟩=some (.int .u8 pc)):=fun v L hv=>by
     rw[Lib.cell_of_heap ((show∀v,Below b w2 v->v.heap[w.heap.size]? =some (.cells #[.int .u8 4,c1,c2,.int .u8 pc,c4,c5,c6,c7,.int .i64 rr,c9,c10,.int .i64 ld,.slice aa an ac,.slice ga k gc,.int .u8 cl] 60 (0,0))from hh2) v hv.bel),Lib.cell_of_heap ((show∀v,Below b w2 v->v.heap[w.heap.size]? =some (.cells #[.int .u8 4,c1,c2,.int .u8 pc,c4,c5,c6,c7,.int .i64 rr,c9,c10,.int .i64 ld,.slice aa an ac,.slice ga k gc,.int .u8 cl] 60 (0,0))from hh2) v hv.bel)];exact⟨rfl,rfl⟩
    have i1:∀j:Nat,iR ((fun _:Nat=>cl+pc) j)=true:=fun j=>iR_iff.2 ⟨by dsimp only;omega,by dsimp only;omega⟩;have i2:Hid (∀j,j<1->(#[Value.int .i64 (cl+pc)]:Array Value)[j]? =some (.int .i64 ((fun _:Nat=>cl+pc) j))):=fun j hj=>by
     have:j=0:=by omega
     subst this;rfl
    obtain⟨L6,hL6⟩:∃L6,L6=L5++lnL sPay P (fun _=>3) k:=⟨_,rfl⟩;rw[<-hL6]at h6;have hT2:Hid (L6++by_ sClaims++nuL (fun _=>cl+pc) 1++[10]=seT A an P k (cl+pc)):=by
     show _=_;rw[hL6,show L5=hdL sSettle++by_ sBalances++nuL A an++[10]from hL5'];simp only[seT,clL,List.append_assoc]
    have i3':L6.length+sClaims.size+1*22<=1000000000000:=by
     have h1:=lnL_len (word:=sPay) (by decide) hX k (n:=fun _=>3) (fun e he=>(by show(3:Nat)<=1000;omega));have h2:k*30000<=1000*30000:=AH _ (by omega);have h3:sClaims.size=6:=rfl;rw[hL6,AG];omega
    have f0:Hid (b<w2.heap.size):=hb3;clear hb3 hL6;obtain⟨f14,f3⟩:=(show∀v L,WrI w2 b L v->v.cell? ⟨w.heap.size,14,none⟩=some (.int .u8 cl)∧v.cell? ⟨w.heap.size,3,none⟩=some (.int .u8 pc)from hbx) wr _ h6;have i4:wr.heap.size≠b:=by have:=h6.bel.size;have h:b<w2.heap.size:=f0;omega
    have h6a:=h6.alloc hb2 (.cells #[.int .i64 (cl+pc)] 3);have h6n:Hid ((wr.alloc (.cells #[.int .i64 (cl+pc)] 3)).heap[wr.heap.size]? =some (.cells #[.int .i64 (cl+pc)] 3 (0,0))):=alloc_new wr _
    go_wp2_with (first|(go_at_call 55;refine(ints_new h6a hW2 hb2 sClaims wr.heap.size 1 1 (fun _=>cl+pc) #[.int .i64 (cl+pc)] (0,0) i1 i4 h6n i2 i3').mono ?_))
    rintro e w7 rfl h7;replace h7:WrI w2 b (L6++by_ sClaims++nuL (fun _=>cl+pc) 1++[10]) w7:=by simpa only[List.append_assoc]using h7
    obtain⟨T,hT⟩:∃T,T=L6++by_ sClaims++nuL (fun _=>cl+pc) 1++[10]:=⟨_,rfl⟩;rw[<-hT]at h7;have hT3:Hid (seT A an P k (cl+pc)=T):=by
     show _=_;rw[hT];exact(show L6++by_ sClaims++nuL (fun _=>cl+pc) 1++[10]=seT A an P k (cl+pc)from hT2).symm
    have hne:T≠[]:=by rw[hT];simp
    have hbz:Below w.heap.size w w7:=hbv w7 h7.bel;clear hT hT2 f14 f3 h6 h6a h6n i1 i2 i3' i4 hbx
    go_wp2_with (first|(go_at_call 56;refine(wr_len b b T _ h7.bld).mono ?_))
    rintro e w8 ⟨rfl,rfl⟩;have hfin:Hid (∀v,Below b w8 v->Below w.heap.size w v):=fun v hv=>hbz.trans (hv.mono (by omega));by_cases hbig:60000<T.length
    ·have hdb:decide (60000<T.length)=true:=A4 hbig;have hd2:Hid (decide (60000<T.length)=true):=hdb;clear hdb
     go_wp2
     go_ret2
     rw[show seT A an P k (cl+pc)=T from hT3];unfold txS txE;rw[show decide (60000<T.length)=true from hd2];exact⟨rfl,hbz⟩
    ·have hd2:Hid (decide (60000<T.length)=false):=AB hbig
     go_wp2_with (first|(go_at_call 57;refine(wr_text b b T _ h7.bld hne).mono ?_))
     rintro e w9 ⟨rfl,h9⟩
     go_wp2
     go_ret2
     rw[show seT A an P k (cl+pc)=T from hT3];unfold txS txE;rw[show decide (60000<T.length)=false from hd2];exact⟨rfl,(show∀v,Below b w8 v->Below w.heap.size w v from hfin) w9 h9⟩
end Go.Proofs.YtkcnkimndhgkgaaGreatDoor
namespace Go.Proofs.YtkcnkimndhgkgaaGreatDoor
open Go.Ev
set_option maxRecDepth 100000
structure Dc where
 k:Int
 ca:Row
 pi:Row
 pc:Int
 wo:Row
 gv:Row
 aa:Row
 fv:Row
 rr:Int
 lr:Row
 lp:Row
 ld:Int
 ba:Row
 pa:Row
 cl:Int
def Dc.D(x:Dc):D:=docD x.k x.ca x.pi x.pc x.wo x.gv x.aa x.fv x.rr x.lr x.lp x.ld x.ba x.pa x.cl
def asDoc:D->Option Dc
 |.agg [.v (.int .u8 k),.slice [.int .i64,.slice [.int .i64],.slice [.int .i64]] ca,.slice [.slice [.int .i64,.int .i64,.int .i64,.int .i64]] pi,.v (.int .u8 pc),.slice [.slice [.int .i64,.int .i64]] wo,.slice [.slice [.int .i64]] gv,.slice [.int .i64] aa,.slice [.slice [.int .i64]] fv,.v (.int .i64 rr),.slice [.int .i64] lr,.slice [.int .i64] lp,.v (.int .i64 ld),.slice [.int .i64] ba,.slice [.int .i64,.int .i64,.int .i64] pa,.v (.int .u8 cl)]=>some ⟨k,ca,pi,pc,wo,gv,aa,fv,rr,lr,lp,ld,ba,pa,cl⟩
 |_=>none
theorem asDoc_eq{d:D}{x:Dc}(h:asDoc d=some x):d=x.D:=by
 unfold asDoc at h;split at h
 ·cases h;rfl
 ·cases h
def pb(o:Row)(k:Int):Row:=(winOf o 0 o.n).app (winOf ((Row.zeros 1).setI 0 0 k) 0 1)
def fin(o:Row):Row:=match o with|.nil=>.nil|.mk n I B S R=>winOf (.mk n I B S R) 0 n
def pT4(ba pa o:Row):OD:=br (decide ((ba.n:Int)>0)) (some [.slice [.int .u8] (fin (pb o 4))]) (br (decide ((pa.n:Int)>0)) (some [.slice [.int .u8] (fin (pb o 4))]) (some [.slice [.int .u8] (fin o)]))
def pT3(fv:Row)(rr:Int)(lr lp:Row)(ld:Int)(t:Row->OD)(o:Row):OD:=br (decide ((fv.n:Int)>0)) (t (pb o 3)) (br (rr !=0) (t (pb o 3)) (br (decide ((lr.n:Int)>0)) (t (pb o 3)) (br (decide ((lp.n:Int)>0)) (t (pb o 3)) (br (ld !=0) (t (pb o 3)) (t o)))))
def pT2(gv aa:Row)(t:Row->OD)(o:Row):OD:=br (decide ((gv.n:Int)>0)) (t (pb o 2)) (br (decide ((aa.n:Int)>0)) (t (pb o 2)) (t o))
def pT1(ca pi:Row)(pc:Int)(wo:Row)(t:Row->OD)(o:Row):OD:=br (decide ((ca.n:Int)>0)) (t (pb o 1)) (br (decide ((pi.n:Int)>0)) (t (pb o 1)) (br (decide ((wo.n:Int)>0)) (t (pb o 1)) (br (pc !=0) (t (pb o 1)) (t o))))
noncomputable def C0:Cx:=mkCx Tryz.prog fns [] []
theorem C0_ok:CxOk C0:=mkCx_ok enter mixed (fun p h=>by cases h) (fun l h=>by cases h)
theorem u29(k:Int)(ca pi:Row)(pc:Int)(wo gv aa fv:Row)(rr:Int)(lr lp:Row)(ld:Int)(ba pa:Row)(cl:Int):evF C0 6 38 [docD k ca pi pc wo gv aa fv rr lr lp ld ba pa cl]=pT1 ca pi pc wo (pT2 gv aa (pT3 fv rr lr lp ld (pT4 ba pa))) .nil:=by kernel_rfl
def fC(x:Dc):Bool:=decide ((x.ca.n:Int)>0)||(decide ((x.pi.n:Int)>0)||(decide ((x.wo.n:Int)>0)||x.pc !=0))
def fG(x:Dc):Bool:=decide ((x.gv.n:Int)>0)||decide ((x.aa.n:Int)>0)
def fR(x:Dc):Bool:=decide ((x.fv.n:Int)>0)||(x.rr !=0||(decide ((x.lr.n:Int)>0)||(decide ((x.lp.n:Int)>0)||x.ld !=0)))
def fS(x:Dc):Bool:=decide ((x.ba.n:Int)>0)||decide ((x.pa.n:Int)>0)
def paO(c g r s:Bool):Row:=
 let a:=bif c then pb .nil 1 else .nil
 let b:=bif g then pb a 2 else a
 let d:=bif r then pb b 3 else b
 bif s then pb d 4 else d
def paR(x:Dc):Row:=fin (paO (fC x) (fG x) (fR x) (fS x))
def Fpar:FD
 |[d]=>match asDoc d with
  |some x=>some (true,[.slice [.int .u8] (paR x)])
  |none=>none
 |_=>none
theorem den_par:Den Tryz.prog 38 Fpar:=evF_den C0_ok fun ds rs h=>by
 unfold Fpar at h;split at h
 ·split at h
  ·rename_i x hx;simp only[A5,A6,true_and]at h;subst h;rw[asDoc_eq hx];refine(u29 x.k x.ca x.pi x.pc x.wo x.gv x.aa x.fv x.rr x.lr x.lp x.ld x.ba x.pa x.cl).trans ?_;unfold pT1 pT2 pT3 pT4 paR fC fG fR fS paO;simp only[<-br_or];generalize(decide ((x.ca.n:Int)>0)||(decide ((x.pi.n:Int)>0)||(decide ((x.wo.n:Int)>0)||x.pc !=0)))=f1;generalize(decide ((x.gv.n:Int)>0)||decide ((x.aa.n:Int)>0))=f2;generalize(decide ((x.fv.n:Int)>0)||(x.rr !=0||(decide ((x.lr.n:Int)>0)||(decide ((x.lp.n:Int)>0)||x.ld !=0))))=f3;generalize(decide ((x.ba.n:Int)>0)||decide ((x.pa.n:Int)>0))=f4;cases f1<;>cases f2<;>cases f3<;>cases f4<;>rfl
  ·cases h
 ·cases h
def otB(k:Int)(x:Dc):Bool:=anyF (fun j=>(paR x).I j 0 !=k) (paR x).n 0
def FGu(c:Row->Bool)(o:Row->Row)(e:Row->Int):FD
 |[.slice [.int .i64] b]=>some (c b,[.slice [.int .i64] (o b),.v (i64 (e b))])
 |_=>none
def FLc(e:Int->Row->Int):FD
 |[.v (.int .i64 n),.slice [.int .i64,.int .i64,.int .i64] b]=>some (true,[.v (i64 (e n b))])
 |_=>none
structure Ck where
 sc:Row->Int->Bool
 sb:Row->Int->Bool
 pcc:Row->Row->Bool
 pcE:Row->Row->Int
 rcc:Row->Int->Bool
 rcE:Row->Int->Int
 rvc:Row->Int->Row->Row->Int->Bool
 rvE:Row->Int->Row->Row->Int->Int
 guc:Row->Bool
 guO:Row->Row
 guE:Row->Int
 lcE:Int->Row->Int
def p_l13:PSt:={τ:=pu 1++[.v (.c (.pointer (some ⟨0,0,some 0⟩)))]++pu 24++[.v (.sl 1),.v (.int .i64),.v (.int .i64)]++pu 84,saved:=[[]],mem:=[.box [.v (.int .u8),.v (.sl 2),.v (.sl 3),.v (.int .u8),.v (.sl 4),.v (.sl 5),.v (.sl 6),.v (.sl 7),.v (.int .i64),.v (.sl 8),.v (.sl 9),.v (.int .i64),.v (.sl 10),.v (.sl 11),.v (.int .u8)],.row [.int .u8] true,.row [.int .i64,.slice [.int .i64],.slice [.int .i64]] false,.row [.slice [.int .i64,.int .i64,.int .i64,.int .i64]] false,.row [.slice [.int .i64,.int .i64]] false,.row [.slice [.int .i64]] false,.row [.int .i64] false,.row [.slice [.int .i64]] false,.row [.int .i64] false,.row [.int .i64] false,.row [.int .i64] false,.row [.int .i64,.int .i64,.int .i64] false]}
structure A_l13 where
 n:Nat
 len:Int
 j:Int
 k:Int
 can:Nat
 pin:Nat
 pc:Int
 won:Nat
 gvn:Nat
 aan:Nat
 fvn:Nat
 rr:Int
 lrn:Nat
 lpn:Nat
 ld:Int
 ban:Nat
 pan:Nat
 cl:Int
 p:Row
 ca:Row
 pi:Row
 wo:Row
 gv:Row
 aa:Row
 fv:Row
 lr:Row
 lp:Row
 ba:Row
 pa:Row
def d_l13(its:List It):Option A_l13:=match its with|[.n n,.i len,.i j,.i k,.n can,.n pin,.i pc,.n won,.n gvn,.n aan,.n fvn,.i rr,.n lrn,.n lpn,.i ld,.n ban,.n pan,.i cl,.r p,.r ca,.r pi,.r wo,.r gv,.r aa,.r fv,.r lr,.r lp,.r ba,.r pa]=>some ⟨n,len,j,k,can,pin,pc,won,gvn,aan,fvn,rr,lrn,lpn,ld,ban,pan,cl,p,ca,pi,wo,gv,aa,fv,lr,lp,ba,pa⟩|_=>none
def c_l13(x:A_l13):Bool:=x.j=0∧x.len=x.n∧x.n<=1000
def c_l13_iff{x:A_l13}:=@ciff _ c_l13 _ _ rfl x
def l13:ScanL A_l13:=⟨19,4,[1,26,27,28],[1,2],p_l13,d_l13,fun x j=>[.n x.n,.i (x.n:Int),.i (j:Int),.i x.k,.n x.can,.n x.pin,.i x.pc,.n x.won,.n x.gvn,.n x.aan,.n x.fvn,.i x.rr,.n x.lrn,.n x.lpn,.i x.ld,.n x.ban,.n x.pan,.i x.cl,.r x.p,.r x.ca,.r x.pi,.r x.wo,.r x.gv,.r x.aa,.r x.fv,.r x.lr,.r x.lp,.r x.ba,.r x.pa],fun x=>x.n,c_l13,fun x j=>x.p.I j 0 !=x.k,fun x j K=>K .ret ⟨us 1++[.pointer (some ⟨0,0,some 0⟩),i64 8]++us 110,[[]],[some (.box [.int .u8 x.k,S_ 1 0 x.can,S_ 2 0 x.pin,.int .u8 x.pc,S_ 3 0 x.won,S_ 4 0 x.gvn,S_ 5 0 x.aan,S_ 6 0 x.fvn,i64 x.rr,S_ 7 0 x.lrn,S_ 8 0 x.lpn,i64 x.ld,S_ 9 0 x.ban,S_ 10 0 x.pan,.int .u8 x.cl]),some (.row [.int .i64,.slice [.int .i64],.slice [.int .i64]] false x.ca),some (.row [.slice [.int .i64,.int .i64,.int .i64,.int .i64]] false x.pi),some (.row [.slice [.int .i64,.int .i64]] false x.wo),some (.row [.slice [.int .i64]] false x.gv),some (.row [.int .i64] false x.aa),some (.row [.slice [.int .i64]] false x.fv),some (.row [.int .i64] false x.lr),some (.row [.int .i64] false x.lp),some (.row [.int .i64] false x.ba),some (.row [.int .i64,.int .i64,.int .i64] false x.pa)]⟩,fun x K=>K (.exit 0) ⟨us 1++[.pointer (some ⟨0,0,some 0⟩)]++us 111,[[]],[some (.box [.int .u8 x.k,S_ 1 0 x.can,S_ 2 0 x.pin,.int .u8 x.pc,S_ 3 0 x.won,S_ 4 0 x.gvn,S_ 5 0 x.aan,S_ 6 0 x.fvn,i64 x.rr,S_ 7 0 x.lrn,S_ 8 0 x.lpn,i64 x.ld,S_ 9 0 x.ban,S_ 10 0 x.pan,.int .u8 x.cl]),some (.row [.int .i64,.slice [.int .i64],.slice [.int .i64]] false x.ca),some (.row [.slice [.int .i64,.int .i64,.int .i64,.int .i64]] false x.pi),some (.row [.slice [.int .i64,.int .i64]] false x.wo),some (.row [.slice [.int .i64]] false x.gv),some (.row [.int .i64] false x.aa),some (.row [.slice [.int .i64]] false x.fv),some (.row [.int .i64] false x.lr),some (.row [.int .i64] false x.lp),some (.row [.int .i64] false x.ba),some (.row [.int .i64,.int .i64,.int .i64] false x.pa)]⟩⟩
noncomputable def C13(sc sb:Row->Int->Bool)(pcc:Row->Row->Bool)(pcE:Row->Row->Int)(rcc:Row->Int->Bool)(rcE:Row->Int->Int)(rvc:Row->Int->Row->Row->Int->Bool)(rvE:Row->Int->Row->Row->Int->Int)(guc:Row->Bool)(guO:Row->Row)(guE:Row->Int)(lcE:Int->Row->Int):Cx:=mkCx Tryz.prog fns [(40,FSq sc sb),(39,FPc pcc pcE),(44,FRc rcc rcE),(45,FRv rvc rvE),(46,FGu guc guO guE),(47,FLc lcE),(42,Fchk),(43,Fval),(41,Ffst),(38,Fpar)] [l13.C]
theorem r_l13(sc sb:Row->Int->Bool)(pcc:Row->Row->Bool)(pcE:Row->Row->Int)(rcc:Row->Int->Bool)(rcE:Row->Int->Int)(rvc:Row->Int->Row->Row->Int->Bool)(rvE:Row->Int->Row->Row->Int->Int)(guc:Row->Bool)(guO:Row->Row)(guE:Row->Int)(lcE:Int->Row->Int)(R:St->OD)(K:X->St->OD)(q n:Nat)(len j k:Int)(can pin:Nat)(pc:Int)(won gvn aan fvn:Nat)(rr:Int)(lrn lpn:Nat)(ld:Int)(ban pan:Nat)(cl:Int)(p ca pi wo gv aa fv lr lp ba pa:Row):bodyOf (C13 sc sb pcc pcE rcc rcE rvc rvE guc guO guE lcE) 19 4 q (bst p_l13 [.n n,.i len,.i j,.i k,.n can,.n pin,.i pc,.n won,.n gvn,.n aan,.n fvn,.i rr,.n lrn,.n lpn,.i ld,.n ban,.n pan,.i cl,.r p,.r ca,.r pi,.r wo,.r gv,.r aa,.r fv,.r lr,.r lp,.r ba,.r pa]) (rnd [1,26,27,28] (some [1,2]) R K)=br (j<len) (br (0<=j&&j<(n:Int)) (br (p.I (0+j.toNat) 0 !=k) (K .ret ⟨us 1++[.pointer (some ⟨0,0,some 0⟩),i64 8]++us 110,[[]],[some (.box [.int .u8 k,S_ 1 0 can,S_ 2 0 pin,.int .u8 pc,S_ 3 0 won,S_ 4 0 gvn,S_ 5 0 aan,S_ 6 0 fvn,i64 rr,S_ 7 0 lrn,S_ 8 0 lpn,i64 ld,S_ 9 0 ban,S_ 10 0 pan,.int .u8 cl]),some (.row [.int .i64,.slice [.int .i64],.slice [.int .i64]] false ca),some (.row [.slice [.int .i64,.int .i64,.int .i64,.int .i64]] false pi),some (.row [.slice [.int .i64,.int .i64]] false wo),some (.row [.slice [.int .i64]] false gv),some (.row [.int .i64] false aa),some (.row [.slice [.int .i64]] false fv),some (.row [.int .i64] false lr),some (.row [.int .i64] false lp),some (.row [.int .i64] false ba),some (.row [.int .i64,.int .i64,.int .i64] false pa)]⟩) (R ⟨us 1++[.pointer (some ⟨0,0,some 0⟩)]++us 24++[S_ 1 0 n,i64 len,i64 (IntKind.i64.wrap (j+1))]++us 84,[[]],[some (.box [.int .u8 k,S_ 2 0 can,S_ 3 0 pin,.int .u8 pc,S_ 4 0 won,S_ 5 0 gvn,S_ 6 0 aan,S_ 7 0 fvn,i64 rr,S_ 8 0 lrn,S_ 9 0 lpn,i64 ld,S_ 10 0 ban,S_ 11 0 pan,.int .u8 cl]),some (.row [.int .u8] true p),some (.row [.int .i64,.slice [.int .i64],.slice [.int .i64]] false ca),some (.row [.slice [.int .i64,.int .i64,.int .i64,.int .i64]] false pi),some (.row [.slice [.int .i64,.int .i64]] false wo),some (.row [.slice [.int .i64]] false gv),some (.row [.int .i64] false aa),some (.row [.slice [.int .i64]] false fv),some (.row [.int .i64] false lr),some (.row [.int .i64] false lp),some (.row [.int .i64] false ba),some (.row [.int .i64,.int .i64,.int .i64] false pa)]⟩)) none) (K (.exit 0) ⟨us 1++[.pointer (some ⟨0,0,some 0⟩)]++us 111,[[]],[some (.box [.int .u8 k,S_ 1 0 can,S_ 2 0 pin,.int .u8 pc,S_ 3 0 won,S_ 4 0 gvn,S_ 5 0 aan,S_ 6 0 fvn,i64 rr,S_ 7 0 lrn,S_ 8 0 lpn,i64 ld,S_ 9 0 ban,S_ 10 0 pan,.int .u8 cl]),some (.row [.int .i64,.slice [.int .i64],.slice [.int .i64]] false ca),some (.row [.slice [.int .i64,.int .i64,.int .i64,.int .i64]] false pi),some (.row [.slice [.int .i64,.int .i64]] false wo),some (.row [.slice [.int .i64]] false gv),some (.row [.int .i64] false aa),some (.row [.slice [.int .i64]] false fv),some (.row [.int .i64] false lr),some (.row [.int .i64] false lp),some (.row [.int .i64] false ba),some (.row [.int .i64,.int .i64,.int .i64] false pa)]⟩):=by kernel_rfl
theorem u13(sc sb:Row->Int->Bool)(pcc:Row->Row->Bool)(pcE:Row->Row->Int)(rcc:Row->Int->Bool)(rcE:Row->Int->Int)(rvc:Row->Int->Row->Row->Int->Bool)(rvE:Row->Int->Row->Row->Int->Int)(guc:Row->Bool)(guO:Row->Row)(guE:Row->Int)(lcE:Int->Row->Int)(k:Int)(ca pi:Row)(pc:Int)(wo gv aa fv:Row)(rr:Int)(lr lp:Row)(ld:Int)(ba pa:Row)(cl:Int):evF (C13 sc sb pcc pcE rcc rcE rvc rvE guc guO guE lcE) 6 19 [docD k ca pi pc wo gv aa fv rr lr lp ld ba pa cl]=br (k<1) (some [.v (i64 8)]) (br (k>4) (some [.v (i64 8)]) (br (k==1) (br (cl !=0) (some [.v (i64 8)]) (br (c_l13 (⟨(paR (⟨k,winOf ca 0 ca.n,winOf pi 0 pi.n,pc,winOf wo 0 wo.n,winOf gv 0 gv.n,winOf aa 0 aa.n,winOf fv 0 fv.n,rr,winOf lr 0 lr.n,winOf lp 0 lp.n,ld,winOf ba 0 ba.n,winOf pa 0 pa.n,cl⟩:Dc)).n,(↑(paR (⟨k,winOf ca 0 ca.n,winOf pi 0 pi.n,pc,winOf wo 0 wo.n,winOf gv 0 gv.n,winOf aa 0 aa.n,winOf fv 0 fv.n,rr,winOf lr 0 lr.n,winOf lp 0 lp.n,ld,winOf ba 0 ba.n,winOf pa 0 pa.n,cl⟩:Dc)).n:Int),0,k,ca.n,pi.n,pc,wo.n,gv.n,aa.n,fv.n,rr,lr.n,lp.n,ld,ba.n,pa.n,cl,paR (⟨k,winOf ca 0 ca.n,winOf pi 0 pi.n,pc,winOf wo 0 wo.n,winOf gv 0 gv.n,winOf aa 0 aa.n,winOf fv 0 fv.n,rr,winOf lr 0 lr.n,winOf lp 0 lp.n,ld,winOf ba 0 ba.n,winOf pa 0 pa.n,cl⟩:Dc),ca,pi,wo,gv,aa,fv,lr,lp,ba,pa⟩:A_l13)) (br (anyF (fun j=>(paR (⟨k,winOf ca 0 ca.n,winOf pi 0 pi.n,pc,winOf wo 0 wo.n,winOf gv 0 gv.n,winOf aa 0 aa.n,winOf fv 0 fv.n,rr,winOf lr 0 lr.n,winOf lp 0 lp.n,ld,winOf ba 0 ba.n,winOf pa 0 pa.n,cl⟩:Dc)).I j 0 !=k) (paR (⟨k,winOf ca 0 ca.n,winOf pi 0 pi.n,pc,winOf wo 0 wo.n,winOf gv 0 gv.n,winOf aa 0 aa.n,winOf fv 0 fv.n,rr,winOf lr 0 lr.n,winOf lp 0 lp.n,ld,winOf ba 0 ba.n,winOf pa 0 pa.n,cl⟩:Dc)).n 0) (some [.v (i64 8)]) (br (k==1) (br (pcc (winOf ca 0 ca.n) (winOf pi 0 pi.n)) (br (pc<=31) (br (sc (winOf wo 0 wo.n) (ca.n:Int)) (br (pcE (winOf ca 0 ca.n) (winOf pi 0 pi.n)==0) (br (!sb (winOf wo 0 wo.n) (ca.n:Int)) (some [.v (i64 8)]) (some [.v (i64 (pcE (winOf ca 0 ca.n) (winOf pi 0 pi.n)))])) (some [.v (i64 (pcE (winOf ca 0 ca.n) (winOf pi 0 pi.n)))])) none) (br (pcE (winOf ca 0 ca.n) (winOf pi 0 pi.n)==0) (some [.v (i64 8)]) (some [.v (i64 (pcE (winOf ca 0 ca.n) (winOf pi 0 pi.n)))]))) none) (br (k==2) (br ((winOf gv 0 gv.n).n<=1000000) (br (decide ((winOf gv 0 gv.n).n<=1000000∧(winOf aa 0 aa.n).n<=1000000)) (br (firE (winOf (((Row.zeros 2).setI 0 0 (chkE (winOf gv 0 gv.n))).setI 1 0 (valE (winOf gv 0 gv.n) (winOf aa 0 aa.n))) 0 2)==0) (br (!decide (cl<=31)) (some [.v (i64 8)]) (some [.v (i64 (firE (winOf (((Row.zeros 2).setI 0 0 (chkE (winOf gv 0 gv.n))).setI 1 0 (valE (winOf gv 0 gv.n) (winOf aa 0 aa.n))) 0 2)))])) (some [.v (i64 (firE (winOf (((Row.zeros 2).setI 0 0 (chkE (winOf gv 0 gv.n))).setI 1 0 (valE (winOf gv 0 gv.n) (winOf aa 0 aa.n))) 0 2)))])) none) none) (br (k==3) (br (rcc (winOf fv 0 fv.n) rr) (br (rvc (winOf fv 0 fv.n) rr (winOf lr 0 lr.n) (winOf lp 0 lp.n) ld) (br (firE (winOf (((Row.zeros 2).setI 0 0 (rcE (winOf fv 0 fv.n) rr)).setI 1 0 (rvE (winOf fv 0 fv.n) rr (winOf lr 0 lr.n) (winOf lp 0 lp.n) ld)) 0 2)==0) (br (!decide (cl<=3)) (some [.v (i64 8)]) (some [.v (i64 (firE (winOf (((Row.zeros 2).setI 0 0 (rcE (winOf fv 0 fv.n) rr)).setI 1 0 (rvE (winOf fv 0 fv.n) rr (winOf lr 0 lr.n) (winOf lp 0 lp.n) ld)) 0 2)))])) (some [.v (i64 (firE (winOf (((Row.zeros 2).setI 0 0 (rcE (winOf fv 0 fv.n) rr)).setI 1 0 (rvE (winOf fv 0 fv.n) rr (winOf lr 0 lr.n) (winOf lp 0 lp.n) ld)) 0 2)))])) none) none) (br (k==4) (br (guc (winOf ba 0 ba.n)) (br (firE (winOf (((Row.zeros 2).setI 0 0 (guE (winOf ba 0 ba.n))).setI 1 0 (lcE (ba.n:Int) (winOf pa 0 pa.n))) 0 2)==0) (br (!decide (cl<=3)) (some [.v (i64 8)]) (some [.v (i64 (firE (winOf (((Row.zeros 2).setI 0 0 (guE (winOf ba 0 ba.n))).setI 1 0 (lcE (ba.n:Int) (winOf pa 0 pa.n))) 0 2)))])) (some [.v (i64 (firE (winOf (((Row.zeros 2).setI 0 0 (guE (winOf ba 0 ba.n))).setI 1 0 (lcE (ba.n:Int) (winOf pa 0 pa.n))) 0 2)))])) none) (br (!decide (cl<=3)) (some [.v (i64 8)]) (some [.v (i64 0)]))))))) none)) (br (c_l13 (⟨(paR (⟨k,winOf ca 0 ca.n,winOf pi 0 pi.n,pc,winOf wo 0 wo.n,winOf gv 0 gv.n,winOf aa 0 aa.n,winOf fv 0 fv.n,rr,winOf lr 0 lr.n,winOf lp 0 lp.n,ld,winOf ba 0 ba.n,winOf pa 0 pa.n,cl⟩:Dc)).n,(↑(paR (⟨k,winOf ca 0 ca.n,winOf pi 0 pi.n,pc,winOf wo 0 wo.n,winOf gv 0 gv.n,winOf aa 0 aa.n,winOf fv 0 fv.n,rr,winOf lr 0 lr.n,winOf lp 0 lp.n,ld,winOf ba 0 ba.n,winOf pa 0 pa.n,cl⟩:Dc)).n:Int),0,k,ca.n,pi.n,pc,wo.n,gv.n,aa.n,fv.n,rr,lr.n,lp.n,ld,ba.n,pa.n,cl,paR (⟨k,winOf ca 0 ca.n,winOf pi 0 pi.n,pc,winOf wo 0 wo.n,winOf gv 0 gv.n,winOf aa 0 aa.n,winOf fv 0 fv.n,rr,winOf lr 0 lr.n,winOf lp 0 lp.n,ld,winOf ba 0 ba.n,winOf pa 0 pa.n,cl⟩:Dc),ca,pi,wo,gv,aa,fv,lr,lp,ba,pa⟩:A_l13)) (br (anyF (fun j=>(paR (⟨k,winOf ca 0 ca.n,winOf pi 0 pi.n,pc,winOf wo 0 wo.n,winOf gv 0 gv.n,winOf aa 0 aa.n,winOf fv 0 fv.n,rr,winOf lr 0 lr.n,winOf lp 0 lp.n,ld,winOf ba 0 ba.n,winOf pa 0 pa.n,cl⟩:Dc)).I j 0 !=k) (paR (⟨k,winOf ca 0 ca.n,winOf pi 0 pi.n,pc,winOf wo 0 wo.n,winOf gv 0 gv.n,winOf aa 0 aa.n,winOf fv 0 fv.n,rr,winOf lr 0 lr.n,winOf lp 0 lp.n,ld,winOf ba 0 ba.n,winOf pa 0 pa.n,cl⟩:Dc)).n 0) (some [.v (i64 8)]) (br (k==1) (br (pcc (winOf ca 0 ca.n) (winOf pi 0 pi.n)) (br (pc<=31) (br (sc (winOf wo 0 wo.n) (ca.n:Int)) (br (pcE (winOf ca 0 ca.n) (winOf pi 0 pi.n)==0) (br (!sb (winOf wo 0 wo.n) (ca.n:Int)) (some [.v (i64 8)]) (some [.v (i64 (pcE (winOf ca 0 ca.n) (winOf pi 0 pi.n)))])) (some [.v (i64 (pcE (winOf ca 0 ca.n) (winOf pi 0 pi.n)))])) none) (br (pcE (winOf ca 0 ca.n) (winOf pi 0 pi.n)==0) (some [.v (i64 8)]) (some [.v (i64 (pcE (winOf ca 0 ca.n) (winOf pi 0 pi.n)))]))) none) (br (k==2) (br ((winOf gv 0 gv.n).n<=1000000) (br (decide ((winOf gv 0 gv.n).n<=1000000∧(winOf aa 0 aa.n).n<=1000000)) (br (firE (winOf (((Row.zeros 2).setI 0 0 (chkE (winOf gv 0 gv.n))).setI 1 0 (valE (winOf gv 0 gv.n) (winOf aa 0 aa.n))) 0 2)==0) (br (!decide (cl<=31)) (some [.v (i64 8)]) (some [.v (i64 (firE (winOf (((Row.zeros 2).setI 0 0 (chkE (winOf gv 0 gv.n))).setI 1 0 (valE (winOf gv 0 gv.n) (winOf aa 0 aa.n))) 0 2)))])) (some [.v (i64 (firE (winOf (((Row.zeros 2).setI 0 0 (chkE (winOf gv 0 gv.n))).setI 1 0 (valE (winOf gv 0 gv.n) (winOf aa 0 aa.n))) 0 2)))])) none) none) (br (k==3) (br (rcc (winOf fv 0 fv.n) rr) (br (rvc (winOf fv 0 fv.n) rr (winOf lr 0 lr.n) (winOf lp 0 lp.n) ld) (br (firE (winOf (((Row.zeros 2).setI 0 0 (rcE (winOf fv 0 fv.n) rr)).setI 1 0 (rvE (winOf fv 0 fv.n) rr (winOf lr 0 lr.n) (winOf lp 0 lp.n) ld)) 0 2)==0) (br (!decide (cl<=3)) (some [.v (i64 8)]) (some [.v (i64 (firE (winOf (((Row.zeros 2).setI 0 0 (rcE (winOf fv 0 fv.n) rr)).setI 1 0 (rvE (winOf fv 0 fv.n) rr (winOf lr 0 lr.n) (winOf lp 0 lp.n) ld)) 0 2)))])) (some [.v (i64 (firE (winOf (((Row.zeros 2).setI 0 0 (rcE (winOf fv 0 fv.n) rr)).setI 1 0 (rvE (winOf fv 0 fv.n) rr (winOf lr 0 lr.n) (winOf lp 0 lp.n) ld)) 0 2)))])) none) none) (br (k==4) (br (guc (winOf ba 0 ba.n)) (br (firE (winOf (((Row.zeros 2).setI 0 0 (guE (winOf ba 0 ba.n))).setI 1 0 (lcE (ba.n:Int) (winOf pa 0 pa.n))) 0 2)==0) (br (!decide (cl<=3)) (some [.v (i64 8)]) (some [.v (i64 (firE (winOf (((Row.zeros 2).setI 0 0 (guE (winOf ba 0 ba.n))).setI 1 0 (lcE (ba.n:Int) (winOf pa 0 pa.n))) 0 2)))])) (some [.v (i64 (firE (winOf (((Row.zeros 2).setI 0 0 (guE (winOf ba 0 ba.n))).setI 1 0 (lcE (ba.n:Int) (winOf pa 0 pa.n))) 0 2)))])) none) (br (!decide (cl<=3)) (some [.v (i64 8)]) (some [.v (i64 0)]))))))) none))):=by kernel_rfl
theorem ok_l13(sc sb:Row->Int->Bool)(pcc:Row->Row->Bool)(pcE:Row->Row->Int)(rcc:Row->Int->Bool)(rcE:Row->Int->Int)(rvc:Row->Int->Row->Row->Int->Bool)(rvE:Row->Int->Row->Row->Int->Int)(guc:Row->Bool)(guO:Row->Row)(guE:Row->Int)(lcE:Int->Row->Int):LoopOk (C13 sc sb pcc pcE rcc rcE rvc rvE guc guO guE lcE) l13.C:=l13.ok (by kernel_rfl)
 (fun its x h hc=>by
  replace h:d_l13 its=some x:=h;unfold d_l13 at h;split at h
  ·cases h;obtain⟨h1,h2,h3⟩:=c_l13_iff.1 hc;dsimp only at h1 h2;subst h1 h2;rfl
  ·cases h)
 (fun x hc=>by have:=c_l13_iff.1 hc;show x.n<18446744073709551616;omega)
 (fun q ⟨n,len0,j0,k,can,pin,pc,won,gvn,aan,fvn,rr,lrn,lpn,ld,ban,pan,cl,p,ca,pi,wo,gv,aa,fv,lr,lp,ba,pa⟩ j hc hi R K=>by
  obtain⟨h1,h2,h3⟩:=c_l13_iff.1 hc;dsimp only at*
  replace hi:j<n:=hi;refine(r_l13 sc sb pcc pcE rcc rcE rvc rvE guc guO guE lcE R K q n ((n:Int)) ((j:Int)) k can pin pc won gvn aan fvn rr lrn lpn ld ban pan cl p ca pi wo gv aa fv lr lp ba pa).trans ?_;rw[A9,AE j,gd j n hi,ltd j n hi,wsn (by omega)];rfl)
 (fun q ⟨n,len0,j0,k,can,pin,pc,won,gvn,aan,fvn,rr,lrn,lpn,ld,ban,pan,cl,p,ca,pi,wo,gv,aa,fv,lr,lp,ba,pa⟩ hc R K=>by
  obtain⟨h1,h2,h3⟩:=c_l13_iff.1 hc;dsimp only at*
  refine(r_l13 sc sb pcc pcE rcc rcE rvc rvE guc guO guE lcE R K q n ((n:Int)) ((n:Int)) k can pin pc won gvn aan fvn rr lrn lpn ld ban pan cl p ca pi wo gv aa fv lr lp ba pa).trans ?_;rw[ltn n];rfl)
theorem firE_two(a b:Int):firE (winOf (((Row.zeros 2).setI 0 0 a).setI 1 0 b) 0 2)=bif a !=0 then a else b:=by
 have h0:(winOf (((Row.zeros 2).setI 0 0 a).setI 1 0 b) 0 2).I 0 0=a:=rfl;have h1:(winOf (((Row.zeros 2).setI 0 0 a).setI 1 0 b) 0 2).I 1 0=b:=rfl;have hn:(winOf (((Row.zeros 2).setI 0 0 a).setI 1 0 b) 0 2).n=2:=rfl;unfold firE;rw[hn];generalize winOf (((Row.zeros 2).setI 0 0 a).setI 1 0 b) 0 2=r at h0 h1;show(bif (r.I 0 0 !=0)||((r.I 1 0 !=0)||false)then r.I (bif (r.I 0 0 !=0)then 0 else bif (r.I 1 0 !=0)then 1 else 2) 0 else 0)=_;rw[h0,h1];cases c0:a !=0
 ·cases c1:b !=0
  ·have:b=0:=by simpa using c1
   rw[this];rfl
  ·exact h1
 ·exact h0
def two(a b:Int):Int:=bif a !=0 then a else b
def okE(e:Int)(ok:Bool):Int:=bif (e==0)&& !ok then 8 else e
def ckBad(x:Dc):Bool:=decide (x.k<1)||(decide (x.k>4)||(x.k==1&&x.cl !=0))
def ckE(v:Ck)(x:Dc):Int:=bif ckBad x||otB x.k x then 8 else bif x.k==1 then okE (v.pcE (win0 x.ca) (win0 x.pi)) (decide (x.pc<=31)&&v.sb (win0 x.wo) x.ca.n)else bif x.k==2 then okE (two (chkE x.gv) (valE x.gv x.aa)) (decide (x.cl<=31))else bif x.k==3 then okE (two (v.rcE (win0 x.fv) x.rr) (v.rvE (win0 x.fv) x.rr (win0 x.lr) (win0 x.lp) x.ld)) (decide (x.cl<=3))else okE (two (v.guE (win0 x.ba)) (v.lcE x.ba.n (win0 x.pa))) (decide (x.cl<=3))
def ckC(v:Ck)(x:Dc):Bool:=ckBad x||(otB x.k x||(bif x.k==1 then v.pcc (win0 x.ca) (win0 x.pi)&&(!decide (x.pc<=31)||v.sc (win0 x.wo) x.ca.n)else bif x.k==2 then decide (x.gv.n<=1000000∧x.aa.n<=1000000)else bif x.k==3 then v.rcc (win0 x.fv) x.rr&&v.rvc (win0 x.fv) x.rr (win0 x.lr) (win0 x.lp) x.ld else v.guc (win0 x.ba)))
def Fckd(v:Ck):FD
 |[d]=>match asDoc d with
  |some x=>some (ckC v x,[.v (i64 (ckE v x))])
  |none=>none
 |_=>none
structure Ck.Ok(v:Ck):Prop where
 sq:DenW Tryz.prog Wd 40 (FSq v.sc v.sb)
 pc:DenW Tryz.prog Wd 39 (FPc v.pcc v.pcE)
 rc:DenW Tryz.prog Wd 44 (FRc v.rcc v.rcE)
 rv:DenW Tryz.prog Wd 45 (FRv v.rvc v.rvE)
 gu:DenW Tryz.prog Wd 46 (FGu v.guc v.guO v.guE)
 lc:DenW Tryz.prog Wd 47 (FLc v.lcE)
theorem C13_ok{v:Ck}(hv:v.Ok):CxW (C13 v.sc v.sb v.pcc v.pcE v.rcc v.rcE v.rvc v.rvE v.guc v.guO v.guE v.lcE) Wd:=mkCx_okW enter mixed (fun p h=>by
 simp only[A8,A7,or_false]at h;rcases h with rfl|rfl|rfl|rfl|rfl|rfl|rfl|rfl|rfl|rfl
 ·exact hv.sq
 ·exact hv.pc
 ·exact hv.rc
 ·exact hv.rv
 ·exact hv.gu
 ·exact hv.lc
 ·exact den_chk.at _
 ·exact den_val.at _
 ·exact den_fst.at _
 ·exact den_par.at _) (fun l h=>by
 simp only[A8,A7,or_false]at h;rcases h with rfl;exact ok_l13 ..)
def ckA(v:Ck)(x:Dc):OD:=br (x.k==1) (br (v.pcc (win0 x.ca) (win0 x.pi)) (br (decide (x.pc<=31)) (br (v.sc (win0 x.wo) x.ca.n) (br (v.pcE (win0 x.ca) (win0 x.pi)==0) (br (!v.sb (win0 x.wo) x.ca.n) (some [.v (i64 8)]) (some [.v (i64 (v.pcE (win0 x.ca) (win0 x.pi)))])) (some [.v (i64 (v.pcE (win0 x.ca) (win0 x.pi)))])) none) (br (v.pcE (win0 x.ca) (win0 x.pi)==0) (some [.v (i64 8)]) (some [.v (i64 (v.pcE (win0 x.ca) (win0 x.pi)))]))) none) (br (x.k==2) (br (decide (x.gv.n<=1000000)) (br (decide (x.gv.n<=1000000∧x.aa.n<=1000000)) (br (firE (winOf (((Row.zeros 2).setI 0 0 (chkE x.gv)).setI 1 0 (valE x.gv x.aa)) 0 2)==0) (br (!decide (x.cl<=31)) (some [.v (i64 8)]) (some [.v (i64 (firE (winOf (((Row.zeros 2).setI 0 0 (chkE x.gv)).setI 1 0 (valE x.gv x.aa)) 0 2)))])) (some [.v (i64 (firE (winOf (((Row.zeros 2).setI 0 0 (chkE x.gv)).setI 1 0 (valE x.gv x.aa)) 0 2)))])) none) none) (br (x.k==3) (br (v.rcc (win0 x.fv) x.rr) (br (v.rvc (win0 x.fv) x.rr (win0 x.lr) (win0 x.lp) x.ld) (br (firE (winOf (((Row.zeros 2).setI 0 0 (v.rcE (win0 x.fv) x.rr)).setI 1 0 (v.rvE (win0 x.fv) x.rr (win0 x.lr) (win0 x.lp) x.ld)) 0 2)==0) (br (!decide (x.cl<=3)) (some [.v (i64 8)]) (some [.v (i64 (firE (winOf (((Row.zeros 2).setI 0 0 (v.rcE (win0 x.fv) x.rr)).setI 1 0 (v.rvE (win0 x.fv) x.rr (win0 x.lr) (win0 x.lp) x.ld)) 0 2)))])) (some [.v (i64 (firE (winOf (((Row.zeros 2).setI 0 0 (v.rcE (win0 x.fv) x.rr)).setI 1 0 (v.rvE (win0 x.fv) x.rr (win0 x.lr) (win0 x.lp) x.ld)) 0 2)))])) none) none) (br (x.k==4) (br (v.guc (win0 x.ba)) (br (firE (winOf (((Row.zeros 2).setI 0 0 (v.guE (win0 x.ba))).setI 1 0 (v.lcE (x.ba.n:Int) (win0 x.pa))) 0 2)==0) (br (!decide (x.cl<=3)) (some [.v (i64 8)]) (some [.v (i64 (firE (winOf (((Row.zeros 2).setI 0 0 (v.guE (win0 x.ba))).setI 1 0 (v.lcE (x.ba.n:Int) (win0 x.pa))) 0 2)))])) (some [.v (i64 (firE (winOf (((Row.zeros 2).setI 0 0 (v.guE (win0 x.ba))).setI 1 0 (v.lcE (x.ba.n:Int) (win0 x.pa))) 0 2)))])) none) (br (!decide (x.cl<=3)) (some [.v (i64 8)]) (some [.v (i64 0)])))))
theorem ok_br(e:Int)(ok:Bool):br (e==0) (br (!ok) (some [D.v (i64 8)]) (some [D.v (i64 e)])) (some [D.v (i64 e)])=some [D.v (i64 (okE e ok))]:=by
 unfold okE;cases e==0<;>cases ok<;>rfl
theorem paR_n(x:Dc):(paR x).n<=4:=by
 unfold paR;cases fC x<;>cases fG x<;>cases fR x<;>cases fS x<;>decide
theorem ckA_eq(v:Ck)(x:Dc)(h1:ckBad x=false)(h2:otB x.k x=false)(hc:ckC v x=true):ckA v x=some [.v (i64 (ckE v x))]:=by
 have hk:1<=x.k∧x.k<=4:=by
  unfold ckBad at h1;simp only[AI,decide_eq_false_iff_not]at h1;omega
 unfold ckC at hc;rw[h1,h2,Bool.false_or,Bool.false_or]at hc;unfold ckE ckA;rw[h1,h2];simp only[firE_two];show _=some [D.v (i64 (bif x.k==1 then _ else _))];have:x.k=1∨x.k=2∨x.k=3∨x.k=4:=by omega
 rcases this with e|e|e|e<;>rw[e]at hc⊢
 ·replace hc:(v.pcc (win0 x.ca) (win0 x.pi)&&(!decide (x.pc<=31)||v.sc (win0 x.wo) x.ca.n))=true:=hc;simp only[A2]at hc;show br (v.pcc (win0 x.ca) (win0 x.pi)) _ _=some [D.v (i64 (okE (v.pcE (win0 x.ca) (win0 x.pi)) (decide (x.pc<=31)&&v.sb (win0 x.wo) x.ca.n)))];rw[hc.1,br_true];cases c:decide (x.pc<=31)
  ·rw[br_false];exact ok_br _ false
  ·have h3:v.sc (win0 x.wo) x.ca.n=true:=by have:=hc.2;rw[c]at this;exact this
   rw[br_true,h3,br_true];exact ok_br _ _
 ·replace hc:decide (x.gv.n<=1000000∧x.aa.n<=1000000)=true:=hc;have h3:=AD hc;show br (decide (x.gv.n<=1000000)) (br (decide (x.gv.n<=1000000∧x.aa.n<=1000000)) _ none) none=_;rw[A4 h3.1,hc,br_true,br_true];exact ok_br _ _
 ·replace hc:(v.rcc (win0 x.fv) x.rr&&v.rvc (win0 x.fv) x.rr (win0 x.lr) (win0 x.lp) x.ld)=true:=hc;simp only[A2]at hc;show br (v.rcc (win0 x.fv) x.rr) (br (v.rvc (win0 x.fv) x.rr (win0 x.lr) (win0 x.lp) x.ld) _ none) none=_;rw[hc.1,hc.2,br_true,br_true];exact ok_br _ _
 ·replace hc:v.guc (win0 x.ba)=true:=hc;show br (v.guc (win0 x.ba)) _ none=_;rw[hc,br_true];exact ok_br _ _
theorem den_ckd{v:Ck}(hv:v.Ok):DenW Tryz.prog Wd 19 (Fckd v):=evF_denW (C13_ok hv) fun ds rs h=>by
 unfold Fckd at h;split at h
 ·split at h
  ·rename_i x hx;simp only[A5,A6]at h;obtain⟨hc,rfl⟩:=h;rw[asDoc_eq hx];refine(u13 v.sc v.sb v.pcc v.pcE v.rcc v.rcE v.rvc v.rvE v.guc v.guO v.guE v.lcE x.k x.ca x.pi x.pc x.wo x.gv x.aa x.fv x.rr x.lr x.lp x.ld x.ba x.pa x.cl).trans ?_;have hl:∀y:A_l13,y.j=0->y.len=y.n->y.n<=1000->c_l13 y=true:=fun y h1 h2 h3=>c_l13_iff.2 ⟨h1,h2,h3⟩;have hn:=paR_n x;rw[hl _ rfl rfl (by show(paR x).n<=1000;omega),br_true];show br (decide (x.k<1)) _ (br (decide (x.k>4)) _ (br (x.k==1) (br (x.cl !=0) _ (br (otB x.k x) _ (ckA v x))) (br (otB x.k x) _ (ckA v x))))=_;have hE:(ckBad x||otB x.k x)=true->some [D.v (i64 8)]=some [D.v (i64 (ckE v x))]:=fun h=>by unfold ckE;rw[h];rfl
   by_cases h1:ckBad x=true
   ·have hE':=hE (by rw[h1];rfl);rw[<-hE'];unfold ckBad at h1;cases c1:decide (x.k<1)
    ·rw[c1]at h1;cases c2:decide (x.k>4)
     ·rw[c2,Bool.false_or,Bool.false_or,A2]at h1;rw[h1.1,h1.2];rfl
     ·rfl
    ·rfl
   ·have h1:ckBad x=false:=by simpa using h1
    have h1':=h1;unfold ckBad at h1';simp only[AI]at h1';rw[h1'.1,h1'.2.1,br_false,br_false];have hmid:br (otB x.k x) (some [D.v (i64 8)]) (ckA v x)=some [D.v (i64 (ckE v x))]:=by
     cases c3:otB x.k x
     ·rw[br_false];exact ckA_eq v x h1 c3 hc
     ·exact hE (by rw[h1,c3];rfl)
    cases c2:x.k==1
    ·exact hmid
    ·have h3:=h1'.2.2;rw[c2,Bool.true_and]at h3;rw[br_true,h3,br_false];exact hmid
  ·cases h
 ·cases h
open Go.Lib Go.RowKit
theorem mem_later{mem:List (Option Blk)}{ρ:Ev.Map}{B B':Nat}{w w':World}(hall:∀(id:Nat)(b:Blk),mem[id]? =some (some b)->∃ks r,b=.row ks false r)(h:MemR mem ρ B w)(hb:Below w.heap.size w w'):MemR mem ρ B' w':=by
 refine⟨fun id b hm=>?_,h.dead,h.inj⟩;obtain⟨L,hL,hr⟩:=h.blk id b hm;refine⟨L,hL,?_⟩;obtain⟨ks,r,rfl⟩:=hall id b hm;obtain⟨h1,h2,h3,h4,h5⟩:=hr;refine⟨h1,h2,fun h=>(by cases h),fun hn=>?_,h5⟩;obtain⟨h6,h7⟩:=h4 hn;have hok:∀b,Ev.okB mem ρ w b->Ev.okB mem ρ w' b∧w'.heap[b]? =w.heap[b]? :=fun b hb'=>⟨⟨Nat.lt_of_lt_of_le hb'.1 hb.size,hb'.2⟩,hb.block b hb'.1⟩;exact⟨fun _=>(hok _ (h6 rfl)).1,h7.mono hok (hok _ (h6 rfl)).2⟩
theorem sl_cell{mem:List (Option Blk)}{ρ:Ev.Map}{w:World}{r:Row}{e j:Nat}{y:Value}(h:CellR (Ev.okB mem ρ w) w (.slice [.int .i64]) r e j y):
  ∃a cap b off,y=.slice a (r.R e j).n cap∧(0<(r.R e j).n->a=some ⟨b,off,none⟩∧b<w.heap.size)∧∀i,i<(r.R e j).n->w.cell? ⟨b,off+i,none⟩=some (.int .i64 ((r.R e j).I i 0)):=by
 cases h with
 |@slice0 _ _ _ _ a cap h1=>exact⟨a,cap,0,0,by rw[h1],fun h=>by omega,fun i hi=>by omega⟩
 |@slice _ _ _ _ b off n cap h1 h2 h3 h4=>
  refine⟨_,cap,b,off,by rw[h1],fun _=>⟨rfl,h3.1⟩,fun i hi=>?_⟩;cases h4 with
  |mk v g1 g2=>
   have:=g1 i 0 _ hi rfl;rw[int_cell (g2 i 0 _ hi rfl)]at this;rw[<-this];show w.cell? _=w.cell? ⟨b,off+i*1+0,none⟩;rw[Nat.mul_one,Nat.add_zero]
theorem arr15{cs:Array Value}(h:cs.size=15):cs= #[cs.getD 0 unk,cs.getD 1 unk,cs.getD 2 unk,cs.getD 3 unk,cs.getD 4 unk,cs.getD 5 unk,cs.getD 6 unk,cs.getD 7 unk,cs.getD 8 unk,cs.getD 9 unk,cs.getD 10 unk,cs.getD 11 unk,cs.getD 12 unk,cs.getD 13 unk,cs.getD 14 unk]:=by
 apply Array.ext (by rw[h];rfl);intro i h1 h2;have hi:i<15:=by omega
 have h3:cs[i]=cs.getD i unk:=by rw[Array.getD_eq_getD_getElem?,AJ h1];rfl
 rw[h3]
 match i,hi with
 |0,_=>rfl
 |1,_=>rfl
 |2,_=>rfl
 |3,_=>rfl
 |4,_=>rfl
 |5,_=>rfl
 |6,_=>rfl
 |7,_=>rfl
 |8,_=>rfl
 |9,_=>rfl
 |10,_=>rfl
 |11,_=>rfl
 |12,_=>rfl
 |13,_=>rfl
 |14,_=>rfl
def docV(x:Dc):List Value:=[.int .u8 x.k,S_ 0 0 x.ca.n,S_ 1 0 x.pi.n,.int .u8 x.pc,S_ 2 0 x.wo.n,S_ 3 0 x.gv.n,S_ 4 0 x.aa.n,S_ 5 0 x.fv.n,.int .i64 x.rr,S_ 6 0 x.lr.n,S_ 7 0 x.lp.n,.int .i64 x.ld,S_ 8 0 x.ba.n,S_ 9 0 x.pa.n,.int .u8 x.cl]
def docM(x:Dc):List (Option Blk):=[some (.row ksC false x.ca),some (.row ksP false x.pi),some (.row ksW false x.wo),some (.row ksV false x.gv),some (.row ksI false x.aa),some (.row ksV false x.fv),some (.row ksI false x.lr),some (.row ksI false x.lp),some (.row ksI false x.ba),some (.row ks3 false x.pa)]
theorem doc_from(x:Dc):fromDs false [x.D] []=some ([.agg ⟨docV x⟩],docM x):=rfl
theorem docM_rows(x:Dc):∀(id:Nat)(b:Blk),(docM x)[id]? =some (some b)->∃ks r,b=.row ks false r:=fun id b h=>by
 unfold docM at h
 match id,h with
 |0,h=>cases h;exact⟨_,_,rfl⟩
 |1,h=>cases h;exact⟨_,_,rfl⟩
 |2,h=>cases h;exact⟨_,_,rfl⟩
 |3,h=>cases h;exact⟨_,_,rfl⟩
 |4,h=>cases h;exact⟨_,_,rfl⟩
 |5,h=>cases h;exact⟨_,_,rfl⟩
 |6,h=>cases h;exact⟨_,_,rfl⟩
 |7,h=>cases h;exact⟨_,_,rfl⟩
 |8,h=>cases h;exact⟨_,_,rfl⟩
 |9,h=>cases h;exact⟨_,_,rfl⟩
 |n+10,h=>simp at h
theorem V_agg{ρ:Ev.Map}{N:Nat}{xs:List Value}{y:Value}(h:V ρ N (.agg ⟨xs⟩) y):∃cs:Array Value,y=.agg cs∧xs.length=cs.size∧∀i x,xs[i]? =some x->V ρ N x (cs.getD i unk):=by
 cases h with
 |@agg _ ys h1 h2=>
  refine⟨ys,rfl,h1,fun i x hx=>?_⟩;have hi:i<ys.size:=by
   have:=(A0.1 hx).1;rw[<-h1];exact this
  have h3:ys[i]? =some (ys.getD i unk):=by rw[Array.getD_eq_getD_getElem?,AJ hi];rfl
  exact h2 i x _ (by simpa using hx) h3
def rtL(q:Int×Int):List UInt8:=Rt.txL q.1 q.2
def raL(x:Nat->Int×Int):Nat->List UInt8
 |0=>[]
 |n+1=>raL x n++(32::rtL (x n))
def iQ(q:Int×Int):Bool:=Rt.iR q.1&&Rt.iR q.2
theorem rtL_len{q:Int×Int}(h:iQ q=true):(rtL q).length<=43:=by
 unfold iQ at h;rw[A2,<-Rt.iR_same,<-Rt.iR_same]at h;have h1:=itoa_len h.1;have h2:=itoa_len h.2;unfold rtL Rt.txL;split
 ·split
  ·rw[AG,List.length_cons];omega
  ·omega
 ·exact Nat.zero_le _
theorem raL_len{x:Nat->Int×Int}(h:∀j,iQ (x j)=true):∀n,(raL x n).length<=n*44
 |0=>Nat.zero_le _
 |n+1=>by
  have h1:=raL_len h n;have h2:=rtL_len (h n);show(raL x n++(32::rtL (x n))).length<=_;rw[AG,List.length_cons];omega
theorem V_tup2{ρ:Ev.Map}{N:Nat}{s:ByteArray}{n:Int}{y:Value}(h:V ρ N (.tuple ⟨[.string s,.int .i64 n]⟩) y):y=.tuple #[.string s,.int .i64 n]:=by
 cases h with
 |@tuple _ ys h1 h2=>
  have hs:ys.size=2:=h1.symm;have e0:=V_str (h2 0 _ (ys.getD 0 unk) rfl (by rw[Array.getD_eq_getD_getElem?,AJ (by omega)];rfl));have e1:=V_int (h2 1 _ (ys.getD 1 unk) rfl (by rw[Array.getD_eq_getD_getElem?,AJ (by omega)];rfl));have:ys= #[ys.getD 0 unk,ys.getD 1 unk]:=by
   apply Array.ext (by rw[hs];rfl);intro i h3 h4;have hi:i<2:=by omega
   have h5:ys[i]=ys.getD i unk:=by rw[Array.getD_eq_getD_getElem?,AJ h3];rfl
   rw[h5]
   match i,hi with
   |0,_=>rfl
   |1,_=>rfl
  rw[this,e0,e1]
theorem ratio_calls(q:Int×Int)(h:iQ q=true)(w:World)(hw:Wd w):Calls Tryz.prog 150 #[.agg #[.int .i64 q.1,.int .i64 q.2]] w fun e w'=>e=.returned (.tuple #[.string (txt (rtL q)),.int .i64 (Rt.chkE q.1 q.2)])∧Below w.heap.size w w':=by
 refine(Rt.den_text w hw [.agg [.v (i64 q.1),.v (i64 q.2)]] [.v (str (rtL q)),.v (i64 (Rt.chkE q.1 q.2))] (by
  unfold iQ at h;show some (Rt.iR q.1&&Rt.iR q.2,_)=_;rw[h];rfl) w (Below.refl _ _) [.agg #[.int .i64 q.1,.int .i64 q.2]] [.agg ⟨[i64 q.1,i64 q.2]⟩] [] (fun _=>none) rfl (mem_nil _ _) rfl (fun i x c hx hc=>?_)).mono fun e w' ⟨cv,he,hb',us,mem',ρ',hf,_,hcv⟩=>?_
 ·match i,hx,hc with
  |0,hx,hc=>
   simp only[List.getElem?_cons_zero,A5]at hx hc;subst hx hc;refine .agg rfl fun j x y hx hy=>?_
   match j,hx,hy with
   |0,hx,hy=>simp at hx hy;subst hx hy;exact .int
   |1,hx,hy=>simp at hx hy;subst hx hy;exact .int
 ·have e2:us=[str (rtL q),i64 (Rt.chkE q.1 q.2)]:=by
   have:fromDs true [D.v (str (rtL q)),.v (i64 (Rt.chkE q.1 q.2))] []=some ([str (rtL q),i64 (Rt.chkE q.1 q.2)],[]):=rfl;rw[this]at hf;simp only[A5,A6]at hf;exact hf.1.symm
  subst e2;exact⟨by rw[he,V_tup2 hcv],hb'⟩
set_option maxHeartbeats 800000 in
set_option maxRecDepth 1000000 in
theorem ratios_walk(B b:Nat)(L:List UInt8)(word:ByteArray)(a:Option Addr)(g off n cap:Nat)(x:Nat->Int×Int)(w:World)(hW:∀w',Below B w w'->Wd w')(hI:Lib.IsBuilderF 117 5 B b (Lib.byteCells L) w)(hB:B<=w.heap.size)
  (ha:0<n->a=some ⟨g,off,none⟩) (hx:∀j,iQ (x j)=true) (hl:∀w',Below B w w'->Lib.OthersKept 5 (some b) w w'->∀j,j<n->w'.cell? ⟨g,off+j*2,none⟩=some (.int .i64 (x j).1)∧w'.cell? ⟨g,off+j*2+1,none⟩=some (.int .i64 (x j).2))
  (hlen:L.length+word.size+n*44<=1000000000000):
  Calls Tryz.prog 111 #[.pointer (some ⟨b,0,none⟩),.string word,.slice a n cap] w fun e w'=>e=.returned (.tuple #[])∧Lib.IsBuilderF 117 5 B b (Lib.byteCells (L++by_ word++raL x n++[10])) w'∧Below B w w'∧Lib.OthersKept 5 (some b) w w':=by
 have mx:Tryz.prog.follows .mixedOrders=true:=mixed;have hWh:Hid (∀w',Below B w w'->Wd w'):=hW;have hlh:Hid (∀w',Below B w w'->Lib.OthersKept 5 (some b) w w'->∀j,j<n->w'.cell? ⟨g,off+j*2,none⟩=some (.int .i64 (x j).1)∧w'.cell? ⟨g,off+j*2+1,none⟩=some (.int .i64 (x j).2)):=hl;clear hW hl
 go_enter Tryz.func111,Tryz.ntmps111
 go_wp2_with (first|(go_at_call 52;refine(wr_write B b L word _ hI ?_ hB).mono ?_))
 ·omega
 rintro e w1 ⟨rfl,hI1,hb1,hk1⟩
 go_wp2
 go_loopw [17] (fun i wr=>∃k:Nat,i=.int .i64 k∧k<=n∧Lib.IsBuilderF 117 5 B b (Lib.byteCells (L++by_ word++raL x k)) wr∧Below B w wr∧Lib.OthersKept 5 (some b) w wr) (fun i _=>n-(RowKit.intOf i).toNat)
 case atStart=>
  exact⟨0,rfl,Nat.zero_le _,by simpa [raL]using hI1,hb1,hk1⟩
 case round=>
  obtain⟨k,rfl,hk,hI2,hb2,hk2⟩:=hrel;have hle:(L++by_ word++raL x k).length<=2000000000000:=by
   have h1:=raL_len hx k;have h3:k*44<=n*44:=AH _ hk;have h4:(by_ word).length=word.size:=(size_by word).symm;rw[AG,AG];omega
  have hB5:B<=wr.heap.size:=Nat.le_trans hB hb2.size;by_cases hp:k<n
  ·have ha':=ha (by omega);subst ha';obtain⟨hc0,hc1⟩:=(show∀w',Below B w w'->Lib.OthersKept 5 (some b) w w'->∀j,j<n->w'.cell? ⟨g,off+j*2,none⟩=some (.int .i64 (x j).1)∧w'.cell? ⟨g,off+j*2+1,none⟩=some (.int .i64 (x j).2)from hlh) _ hb2 hk2 k hp;obtain⟨s,hs⟩:∃s,Hid (s=txt (rtL (x k))):=⟨_,rfl⟩;have hs2:s.size<=43:=by rw[show s=txt (rtL (x k))from hs,txt_size];exact rtL_len (hx k)
   have hI3:=hI2.alloc (.cells #[.int .i64 (x k).1,.int .i64 (x k).2] 40);have hb3:Below B w (wr.alloc (.cells #[.int .i64 (x k).1,.int .i64 (x k).2] 40)):=hb2.alloc hB5 _;have hk3:=hk2.alloc (.cells #[.int .i64 (x k).1,.int .i64 (x k).2] 40);have hct:=ratio_calls (x k) (hx k) _ ((show∀w',Below B w w'->Wd w' from hWh) _ hb3);rw[<-show s=txt (rtL (x k))from hs]at hct;obtain⟨P5,hp5⟩:∃P5:World->Prop,∀v,P5 v↔(Lib.IsBuilderF 117 5 B b (Lib.byteCells (L++by_ word++raL x k)) v∧Below B w v∧Lib.OthersKept 5 (some b) w v):=⟨_,fun _=>Iff.rfl⟩;have hct2:Calls Tryz.prog 150 #[.agg #[.int .i64 (x k).1,.int .i64 (x k).2]] (wr.alloc (.cells #[.int .i64 (x k).1,.int .i64 (x k).2] 40)) fun e w'=>e=.returned (.tuple #[.string s,.int .i64 (Rt.chkE (x k).1 (x k).2)])∧P5 w':=hct.mono fun e w' ⟨h1,h2⟩=>⟨h1,(hp5 w').2 ⟨hI3.below h2,hb3.trans (h2.mono (Nat.le_trans hB hb3.size)),hk3.trans (others_below h2 _)⟩⟩;have hp6:Hid (∀v,P5 v↔(Lib.IsBuilderF 117 5 B b (Lib.byteCells (L++by_ word++raL x k)) v∧Below B w v∧Lib.OthersKept 5 (some b) w v)):=hp5;have hle2:Hid ((L++by_ word++raL x k).length<=2000000000000):=hle;clear hct hI3 hb3 hk3 hI2 hb2 hk2 hI1 hb1 hk1 hI hp5 hle
   go_wp2_with (first|(go_at_call 150;refine hct2.mono ?_))
   rintro e w5 rfl h5;obtain⟨g3,g1,g2⟩:=(show∀v,P5 v↔(Lib.IsBuilderF 117 5 B b (Lib.byteCells (L++by_ word++raL x k)) v∧Below B w v∧Lib.OthersKept 5 (some b) w v)from hp6) w5|>.1 h5;have hB6:B<=w5.heap.size:=Nat.le_trans hB g1.size;have hcat:¬9223372036854775807<1+s.size:=by omega
   have hlen5:(L++by_ word++raL x k).length+(ByteArray.mk #[32]++s).size<=140737488355328:=by
    have hle:(L++by_ word++raL x k).length<=2000000000000:=hle2;rw[ByteArray.size_append];show _+(1+_)<=_;omega
   clear hct2 hp6 h5
   go_wp2_with (first|(go_at_call 52;refine(wr_write B b (L++by_ word++raL x k) _ w5 g3 ?_ hB6).mono ?_))
   ·exact hlen5
   rintro e w6 ⟨rfl,h6,b6,k6⟩
   go_wp2
   go_roundw
   case rel=>
    refine⟨k+1,by go_num,by omega,?_,g1.trans b6,g2.trans k6⟩;have e1:by_ (ByteArray.mk #[32]++s)=32::rtL (x k):=by rw[by_app,show s=txt (rtL (x k))from hs,by_txt];rfl
    rw[e1]at h6;rw[show raL x (k+1)=raL x k++(32::rtL (x k))from rfl,<-List.append_assoc];exact h6
   case measure=>
    simp[RowKit.intOf];omega
  ·have hkn:k=n:=by omega
   subst hkn;have hlen5:(L++by_ word++raL x k).length+(ByteArray.mk #[10]).size<=140737488355328:=by
    show _+1<=_;omega
   go_wp2_with (first|(go_at_call 52;refine(wr_write B b (L++by_ word++raL x k) _ wr hI2 ?_ hB5).mono ?_))
   ·exact hlen5
   rintro e w6 ⟨rfl,h6,b6,k6⟩
   go_wp2
   go_end0
   exact⟨rfl,h6,hb2.trans b6,hk2.trans k6⟩
end Go.Proofs.YtkcnkimndhgkgaaGreatDoor

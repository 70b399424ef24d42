/- Part of a proof of a statement of this seat. No conditions. -/
import Derived.Test.YtkcnkimndhgkgaaGreatDoorXam
import Derived.Deep.RegionHeld3
import Derived.Deep.AppendLies
import Derived.Maps.AppendAt
set_option linter.all false
namespace Go.Proofs.YtkcnkimndhgkgaaGreatDoor
open Go.Ev Go.Lib Go.RowKit
theorem ints_G{w2:World}{b:Nat}{L:List UInt8}{w:World}(h:WrI w2 b L w)(hW:∀w',Below b w2 w'->Wd w')(hb:b<=w2.heap.size)(word:ByteArray)(a:Option Addr)(g off n cap:Nat)(x:Nat->Int)
  (ha:0<n->a=some ⟨g,off,none⟩) (hx:∀j,iR (x j)=true) (hl:∀w',Below b w w'->Lib.OthersKept 5 (some b) w w'->∀j,j<n->w'.cell? ⟨g,off+j,none⟩=some (.int .i64 (x j))) (hlen:L.length+word.size+n*22<=1000000000000):
  Calls Tryz.prog 55 #[.pointer (some ⟨b,0,none⟩),.string word,.slice a n cap] w fun e w'=>e=.returned (.tuple #[])∧WrI w2 b (L++by_ word++nuL x n++[10]) w'∧Lib.OthersKept 5 (some b) w w':=
 (ints_walk b b L word a g off n cap x w (fun w' h'=>hW w' (h.bel.trans h')) h.bld (Nat.le_trans hb h.bel.size) ha hx hl hlen).mono fun e w' ⟨he,h1,h2,h3⟩=>⟨he,⟨h.bel.trans h2,h.oth.trans h3,h1⟩,h3⟩
theorem ratios_G{w2:World}{b:Nat}{L:List UInt8}{w:World}(h:WrI w2 b L w)(hW:∀w',Below b w2 w'->Wd w')(hb:b<=w2.heap.size)(word:ByteArray)(a:Option Addr)(g off n cap:Nat)(x:Nat->Int×Int)
  (ha:0<n->a=some ⟨g,off,none⟩) (hx:∀j,iQ (x j)=true) (hl:∀w',Below b w w'->Lib.OthersKept 5 (some b) w w'->∀j,j<n->w'.cell? ⟨g,off+j*2,none⟩=some (.int .i64 (x j).1)∧w'.cell? ⟨g,off+j*2+1,none⟩=some (.int .i64 (x j).2)) (hlen:L.length+word.size+n*44<=1000000000000):
  Calls Tryz.prog 111 #[.pointer (some ⟨b,0,none⟩),.string word,.slice a n cap] w fun e w'=>e=.returned (.tuple #[])∧WrI w2 b (L++by_ word++raL x n++[10]) w'∧Lib.OthersKept 5 (some b) w w':=
 (ratios_walk b b L word a g off n cap x w (fun w' h'=>hW w' (h.bel.trans h')) h.bld (Nat.le_trans hb h.bel.size) ha hx hl hlen).mono fun e w' ⟨he,h1,h2,h3⟩=>⟨he,⟨h.bel.trans h2,h.oth.trans h3,h1⟩,h3⟩
def sPiece:ByteArray:=⟨⟨[112,105,101,99,101]⟩⟩
def sWorth:ByteArray:=⟨⟨[119,111,114,116,104]⟩⟩
def rnL(word:ByteArray)(x:Nat->Nat->Int×Int)(n:Nat->Nat):Nat->List UInt8
 |0=>[]
 |k+1=>rnL word x n k++(by_ word++raL (x k) (n k)++[10])
theorem rnL_len{word:ByteArray}{x:Nat->Nat->Int×Int}{n:Nat->Nat}(hw:word.size<=100)(hx:∀e j,iQ (x e j)=true):∀k,(∀e,e<k->n e<=2000)->(rnL word x n k).length<=k*100000
 |0,_=>Nat.zero_le _
 |k+1,h=>by
  have h1:=rnL_len hw hx k (fun e he=>h e (by omega));have h2:=raL_len (hx k) (n k);have h3:=h k (by omega);have h4:(by_ word).length=word.size:=(size_by word).symm;show(rnL word x n k++(by_ word++raL (x k) (n k)++[10])).length<=_;rw[AG,AG,AG,List.length_singleton];omega
def crF(cl:Int)(un:Nat)(U Dv:Nat->Int)(j:Nat):Int:=if j=0 then cl else if j<1+un then U (j-1)else Dv (j-1-un)
theorem crF_iR{cl:Int}{un:Nat}{U Dv:Nat->Int}(h1:iR cl=true)(h2:∀j,iR (U j)=true)(h3:∀j,iR (Dv j)=true)(j:Nat):iR (crF cl un U Dv j)=true:=by
 unfold crF;split
 ·exact h1
 ·split
  ·exact h2 _
  ·exact h3 _
theorem crF_list(cl:Int)(un dn:Nat)(U Dv:Nat->Int){j:Nat}(hj:j<1+un+dn):([Value.int .i64 cl]++(List.range un).map (fun i=>Value.int .i64 (U i))++(List.range dn).map (fun i=>Value.int .i64 (Dv i)))[j]? =some (.int .i64 (crF cl un U Dv j)):=by
 unfold crF;rw[List.getElem?_append];simp only[AG,List.length_singleton,List.length_map,List.length_range];by_cases h0:j<1+un
 ·rw[AM h0,List.getElem?_append];simp only[List.length_singleton];by_cases h1:j<1
  ·have:j=0:=by omega
   subst this;rfl
  ·rw[AL h1,AL (by omega),AM h0,List.getElem?_map,List.getElem?_range (by omega)];rfl
 ·rw[AL h0,AL (by omega),AL h0,List.getElem?_map,List.getElem?_range (by omega),show j-(1+un)=j-1-un by omega];rfl
theorem own_lit(v:World)(x:Int)(H:Nat)(hH:v.heap.size=H):(v.alloc (.cells #[.int .i64 x] 3)).ownsRow H 3 1 (.slice (some ⟨H,0,none⟩) 1 1) 1 [.int .i64 x]:=by
 subst hH;exact⟨by simp,.inr ⟨v.heap.size,1,_,rfl,AC _,alloc_new v _,by omega,by unfold maxLen;omega,rfl,rfl⟩⟩
theorem news_ok{w2 v:World}{b ub uo un:Nat}{U:Nat->Int}(hv:Below b w2 v)(hub:ub<b)(hu:∀j,j<un->w2.cell? ⟨ub,uo+j,none⟩=some (.int .i64 (U j))):∀j u,((List.range un).map (fun i=>Value.int .i64 (U i)))[j]? =some u->v.cell? ((⟨ub,uo,none⟩:Addr).add j)=some u:=by
 intro j u h;rw[List.getElem?_map]at h;by_cases hj:j<un
 ·rw[List.getElem?_range hj]at h;cases h;rw[Addr.add_lit,hv.cell (p:=⟨ub,uo+j,none⟩) hub];exact hu j hj
 ·rw[List.getElem?_eq_none (by simpa using hj)]at h;cases h
theorem one_ints(un:Nat)(U:Nat->Int):∀u∈(List.range un).map (fun i=>Value.int .i64 (U i)),u.oneCell'=true:=by
 intro u hu;obtain⟨i,_,rfl⟩:=List.mem_map.1 hu;rfl
theorem crow_cells{w7:World}{base g cap un dn:Nat}{x:Int}{U Dv:Nat->Int}(hown:w7.ownsRow base 3 1 (.slice (some ⟨g,0,none⟩) (1+un+dn) cap) (1+un+dn) ([Value.int .i64 x]++(List.range un).map (fun i=>Value.int .i64 (U i))++(List.range dn).map (fun i=>Value.int .i64 (Dv i)))){b:Nat}(hgb:g≠b):
  ∀w',Below b w7 w'->Lib.OthersKept 5 (some b) w7 w'->∀j,j<1+un+dn->w'.cell? ⟨g,0+j,none⟩=some (.int .i64 (crF x un U Dv j)):=by
 intro w' _ hk j hj;rcases hown.2 with⟨h0,_⟩|⟨g',cap',cur,hv,hb,hg,r1,r2,r3,r4⟩
 ·cases h0
 ·cases hv;have h1:=hk g _ hg (fun e=>hgb (by simpa using e)) (fun c fz e=>by cases e);rw[AE,Lib.cell_of_heap h1];have h2:=crF_list x un dn U Dv hj;rw[Nat.mul_one]at r4;rw[<-r4,List.getElem?_take_of_lt hj,Array.getElem?_toList]at h2;exact h2
def pxF(S:Nat->Nat->Int)(j:Nat):Int×Int:=if j%2=0 then(S (j/2) 0,S (j/2) 1)else(S (j/2) 2,S (j/2) 3)
theorem pxF_iQ{S:Nat->Nat->Int}(h:∀i c,Rt.iR (S i c)=true)(j:Nat):iQ (pxF S j)=true:=by
 unfold pxF iQ;split
 ·show(Rt.iR (S (j/2) 0)&&Rt.iR (S (j/2) 1))=true;rw[h,h];rfl
 ·show(Rt.iR (S (j/2) 2)&&Rt.iR (S (j/2) 3))=true;rw[h,h];rfl
def spL(S:Nat->Nat->Int):Nat->List Value
 |0=>[]
 |n+1=>spL S n++[.int .i64 (S n 0),.int .i64 (S n 1),.int .i64 (S n 2),.int .i64 (S n 3)]
theorem spL_len(S:Nat->Nat->Int):∀n,(spL S n).length=n*4
 |0=>rfl
 |n+1=>by show(spL S n++_).length=_;rw[AG,spL_len S n];show n*4+4=_;omega
theorem spL_get(S:Nat->Nat->Int):∀n i c,i<n->c<4->(spL S n)[i*4+c]? =some (.int .i64 (S i c))
 |0,i,c,h,_=>by omega
 |n+1,i,c,h,hc=>by
  show(spL S n++[.int .i64 (S n 0),.int .i64 (S n 1),.int .i64 (S n 2),.int .i64 (S n 3)])[i*4+c]? =_;rw[List.getElem?_append,spL_len];by_cases hi:i<n
  ·rw[AM (by omega)];exact spL_get S n i c hi hc
  ·have:i=n:=by omega
   subst this;rw[AL (by omega),show i*4+c-i*4=c by omega]
   match c,hc with
   |0,_=>rfl
   |1,_=>rfl
   |2,_=>rfl
   |3,_=>rfl
theorem spL_px(S:Nat->Nat->Int)(n j:Nat)(hj:j<2*n):(spL S n)[j*2]? =some (.int .i64 (pxF S j).1)∧(spL S n)[j*2+1]? =some (.int .i64 (pxF S j).2):=by
 unfold pxF;by_cases h:j%2=0
 ·rw[AM h,show j*2=j/2*4+0 by omega,show j/2*4+0+1=j/2*4+1 by omega];exact⟨spL_get S n _ 0 (by omega) (by omega),spL_get S n _ 1 (by omega) (by omega)⟩
 ·rw[AL h,show j*2=j/2*4+2 by omega,show j/2*4+2+1=j/2*4+3 by omega];exact⟨spL_get S n _ 2 (by omega) (by omega),spL_get S n _ 3 (by omega) (by omega)⟩
theorem ends_cells{w7:World}{base n:Nat}{v:Value}{S:Nat->Nat->Int}(hown:w7.ownsRow base 40 2 v (2*n) (spL S n)){b:Nat}(hb:b<base):∃a cap g,v=.slice a (2*n) cap∧(0<2*n->a=some ⟨g,0,none⟩)∧
  ∀w',Below b w7 w'->Lib.OthersKept 5 (some b) w7 w'->∀j,j<2*n->w'.cell? ⟨g,0+j*2,none⟩=some (.int .i64 (pxF S j).1)∧w'.cell? ⟨g,0+j*2+1,none⟩=some (.int .i64 (pxF S j).2):=by
 rcases hown.2 with⟨rfl,h0⟩|⟨g,cap,cur,rfl,hbg,hg,r1,r2,r3,r4⟩
 ·exact⟨none,0,0,by rw[h0],fun h=>by omega,fun _ _ _ j hj=>by omega⟩
 ·refine⟨_,cap,g,rfl,fun _=>rfl,fun w' _ hk j hj=>?_⟩;have h1:=hk g _ hg (fun e=>by have e:g=b:=Option.some.inj e;omega) (fun c fz e=>by cases e);obtain⟨q1,q2⟩:=spL_px S n j hj;rw[AE,Lib.cell_of_heap h1,Lib.cell_of_heap h1];rw[<-r4,List.getElem?_take_of_lt (by omega),Array.getElem?_toList]at q1 q2;exact⟨q1,q2⟩
theorem infoQ:(Tryz.prog.info? 40).map (fun i=>(i.zero,i.size,i.bytes))=some (some (.agg #[.int .i64 0,.int .i64 0]),2,16):=by kernel_rfl
set_option maxHeartbeats 2000000 in
set_option maxRecDepth 1000000 in
theorem cake_walk{w2:World}{b:Nat}{L:List UInt8}{w:World}(h:WrI w2 b L w)(hW:∀v,Below b w2 v->Wd v)(hb:b<=w2.heap.size)(c0 c3 c5 c6 c7 c8 c9 c10 c11 c12 c13 c14:Value)(ca pa wa:Option Addr)(cn cc pn pcp wn wcp cb co pb po wb wo:Nat)
  (cl:Nat->Int) (ub uo un uc db dO dn dc:Nat->Nat) (U Dv:Nat->Nat->Int) (hb2:b<w2.heap.size)
  (hca:0<cn->ca=some ⟨cb,co,none⟩) (hcb:0<cn->cb<b)
  (hc:∀e,e<cn->w2.cell? ⟨cb,co+e*3,none⟩=some (.int .i64 (cl e))∧w2.cell? ⟨cb,co+e*3+1,none⟩=some (.slice (some ⟨ub e,uo e,none⟩) (un e) (uc e))∧w2.cell? ⟨cb,co+e*3+2,none⟩=some (.slice (some ⟨db e,dO e,none⟩) (dn e) (dc e)))
  (hu:∀e,e<cn->(0<un e∧un e+dn e<=900∧ub e<b∧∀j,j<un e->w2.cell? ⟨ub e,uo e+j,none⟩=some (.int .i64 (U e j)))∧(0<dn e∧dn e<=900∧db e<b∧∀j,j<dn e->w2.cell? ⟨db e,dO e+j,none⟩=some (.int .i64 (Dv e j))))
  (hr1:∀e,iR (cl e)=true) (hr2:∀e j,iR (U e j)=true) (hr3:∀e j,iR (Dv e j)=true) (hcn:cn<=1000) (hlen:L.length<=1000000)
  (sa va:Nat->Option Addr) (sb so sn sc vb vo vn vc:Nat->Nat) (S:Nat->Nat->Nat->Int) (Wq:Nat->Nat->Int×Int)
  (hpa:0<pn->pa=some ⟨pb,po,none⟩∧pb<b) (hps:∀e,e<pn->w2.cell? ⟨pb,po+e,none⟩=some (.slice (sa e) (sn e) (sc e)))
  (hsa:∀e,e<pn->sn e<=900∧(0<sn e->sa e=some ⟨sb e,so e,none⟩∧sb e<b)∧∀i,i<sn e->∀c,c<4->w2.cell? ⟨sb e,so e+i*4+c,none⟩=some (.int .i64 (S e i c)))
  (hwa:0<wn->wa=some ⟨wb,wo,none⟩∧wb<b) (hws:∀e,e<wn->w2.cell? ⟨wb,wo+e,none⟩=some (.slice (va e) (vn e) (vc e)))
  (hva:∀e,e<wn->vn e<=900∧(0<vn e->va e=some ⟨vb e,vo e,none⟩∧vb e<b)∧∀j,j<vn e->w2.cell? ⟨vb e,vo e+j*2,none⟩=some (.int .i64 (Wq e j).1)∧w2.cell? ⟨vb e,vo e+j*2+1,none⟩=some (.int .i64 (Wq e j).2))
  (hr4:∀e i c,Rt.iR (S e i c)=true) (hr5:∀e j,iQ (Wq e j)=true) (hpn:pn<=1000) (hwn:wn<=1000):
  Calls Tryz.prog 54 #[.pointer (some ⟨b,0,none⟩),.agg #[c0,.slice ca cn cc,.slice pa pn pcp,c3,.slice wa wn wcp,c5,c6,c7,c8,c9,c10,c11,c12,c13,c14]] w fun e w'=>e=.returned (.tuple #[])∧WrI w2 b (L++lnL sCake (fun e=>crF (cl e) (un e) (U e) (Dv e)) (fun e=>1+un e+dn e) cn++rnL sPiece (fun e=>pxF (S e)) (fun e=>2*sn e) pn++rnL sWorth Wq vn wn) w':=by
 obtain⟨i0,hi,hz0,hz1,hz2⟩:=info_parts infoI;obtain⟨i1,hj,hy0,hy1,hy2⟩:=info_parts infoQ;obtain⟨docs,hdocs⟩:∃docs:Array Value,docs= #[c0,.slice ca cn cc,.slice pa pn pcp,c3,.slice wa wn wcp,c5,c6,c7,c8,c9,c10,c11,c12,c13,c14]:=⟨_,rfl⟩;obtain⟨b0,hb0⟩:∃b0,w.heap.size=b0:=⟨_,rfl⟩;have hbb:b<b0:=by have:=h.bel.size;omega
 have h1:WrI w2 b L (w.alloc (.cells docs 60)):=h.alloc hb _;have hbx:(w.alloc (.cells docs 60)).heap[b0]? =some (.cells docs 60 (0,0)):=by rw[<-hb0];exact alloc_new w _
 obtain⟨PI,hPI⟩:∃PI:List UInt8->World->Prop,∀l v,PI l v↔(WrI w2 b l v∧v.heap[b0]? =some (.cells docs 60 (0,0))):=⟨_,fun _ _=>Iff.rfl⟩;have hPIh:Hid (∀l v,PI l v↔(WrI w2 b l v∧v.heap[b0]? =some (.cells docs 60 (0,0)))):=hPI;have hP0:Hid (PI L (w.alloc (.cells docs 60))):=(hPI _ _).2 ⟨h1,hbx⟩;have hWh:Hid (∀v,Below b w2 v->Wd v):=hW;have hch:Hid (∀e,e<cn->w2.cell? ⟨cb,co+e*3,none⟩=some (.int .i64 (cl e))∧w2.cell? ⟨cb,co+e*3+1,none⟩=some (.slice (some ⟨ub e,uo e,none⟩) (un e) (uc e))∧w2.cell? ⟨cb,co+e*3+2,none⟩=some (.slice (some ⟨db e,dO e,none⟩) (dn e) (dc e))):=hc;have huh:Hid (∀e,e<cn->(0<un e∧un e+dn e<=900∧ub e<b∧∀j,j<un e->w2.cell? ⟨ub e,uo e+j,none⟩=some (.int .i64 (U e j)))∧(0<dn e∧dn e<=900∧db e<b∧∀j,j<dn e->w2.cell? ⟨db e,dO e+j,none⟩=some (.int .i64 (Dv e j)))):=hu;have hpsh:Hid (∀e,e<pn->w2.cell? ⟨pb,po+e,none⟩=some (.slice (sa e) (sn e) (sc e))):=hps;have hsah:Hid (∀e,e<pn->sn e<=900∧(0<sn e->sa e=some ⟨sb e,so e,none⟩∧sb e<b)∧∀i,i<sn e->∀c,c<4->w2.cell? ⟨sb e,so e+i*4+c,none⟩=some (.int .i64 (S e i c))):=hsa;have hwsh:Hid (∀e,e<wn->w2.cell? ⟨wb,wo+e,none⟩=some (.slice (va e) (vn e) (vc e))):=hws;have hvah:Hid (∀e,e<wn->vn e<=900∧(0<vn e->va e=some ⟨vb e,vo e,none⟩∧vb e<b)∧∀j,j<vn e->w2.cell? ⟨vb e,vo e+j*2,none⟩=some (.int .i64 (Wq e j).1)∧w2.cell? ⟨vb e,vo e+j*2+1,none⟩=some (.int .i64 (Wq e j).2)):=hva;have hpah:Hid (0<pn->pa=some ⟨pb,po,none⟩∧pb<b):=hpa;have hwah:Hid (0<wn->wa=some ⟨wb,wo,none⟩∧wb<b):=hwa;clear hps hsa hws hva hpa hwa;have hdh:Hid (docs= #[c0,.slice ca cn cc,.slice pa pn pcp,c3,.slice wa wn wcp,c5,c6,c7,c8,c9,c10,c11,c12,c13,c14]):=hdocs;have hb0h:Hid (w.heap.size=b0):=hb0;clear h1 hbx hPI hW hc hu h;rw[<-hdocs]
 go_enter Tryz.func54,Tryz.ntmps54
 rw[hdocs]at*
 clear hb0
 go_wp2
 have hPIc:Hid (∀l l' v v',PI l v->WrI w2 b l' v'->v'.heap[b0]? =v.heap[b0]? ->PI l' v'):=fun l l' v v' hp hw he=>((show∀l v,PI l v↔_ from hPIh) l' v').2 ⟨hw,he.trans (((show∀l v,PI l v↔_ from hPIh) l v).1 hp).2⟩;have hPId:Hid (∀l v,PI l v->v.heap[b0]? =some (.cells #[c0,.slice ca cn cc,.slice pa pn pcp,c3,.slice wa wn wcp,c5,c6,c7,c8,c9,c10,c11,c12,c13,c14] 60 (0,0))):=fun l v hp=>(((show∀l v,PI l v↔_ from hPIh) l v).1 hp).2;have hPIb:Hid (∀l v,PI l v->WrI w2 b l v):=fun l v hp=>((show∀l v,PI l v↔_ from hPIh) l v).1 hp|>.1;have hT:Hid (∀k,k<=cn->(L++lnL sCake (fun e=>crF (cl e) (un e) (U e) (Dv e)) (fun e=>1+un e+dn e) k).length<=100000000):=fun k hk=>by
  have h1:=lnL_len (word:=sCake) (x:=fun e=>crF (cl e) (un e) (U e) (Dv e)) (n:=fun e=>1+un e+dn e) (by decide) (fun e j=>crF_iR (hr1 e) (hr2 e) (hr3 e) j) k (fun e he=>by
   have:=((show∀e,e<cn->(0<un e∧un e+dn e<=900∧ub e<b∧∀j,j<un e->w2.cell? ⟨ub e,uo e+j,none⟩=some (.int .i64 (U e j)))∧(0<dn e∧dn e<=900∧db e<b∧∀j,j<dn e->w2.cell? ⟨db e,dO e+j,none⟩=some (.int .i64 (Dv e j)))from huh) e (by omega)).1.2.1;show 1+un e+dn e<=1000;omega)
  have h2:k*30000<=1000*30000:=AH _ (by omega);rw[AG];omega
 go_loopw [16] (fun i wr=>∃k:Nat,i=.int .i64 k∧k<=cn∧PI (L++lnL sCake (fun e=>crF (cl e) (un e) (U e) (Dv e)) (fun e=>1+un e+dn e) k) wr) (fun i _=>cn-(RowKit.intOf i).toNat)
 case atStart=>
  exact⟨0,rfl,Nat.zero_le _,by rw[show L++lnL sCake (fun e=>crF (cl e) (un e) (U e) (Dv e)) (fun e=>1+un e+dn e) 0=L from List.append_nil _];exact hP0⟩
 case round=>
  obtain⟨k,rfl,hk,hp0⟩:=hrel;obtain⟨TL,hTL⟩:∃TL,Hid (TL=L++lnL sCake (fun e=>crF (cl e) (un e) (U e) (Dv e)) (fun e=>1+un e+dn e) k):=⟨_,rfl⟩;rw[<-show TL=_ from hTL]at hp0;have hlT:Hid (TL.length<=100000000):=by
   show _<=_;rw[show TL=_ from hTL];exact(show∀k,k<=cn->(L++lnL sCake (fun e=>crF (cl e) (un e) (U e) (Dv e)) (fun e=>1+un e+dn e) k).length<=100000000 from hT) k hk
  by_cases hp:k<cn
  ·have ha':=hca (by omega);have hcb':=hcb (by omega);subst ha';have hw:=(show∀l v,PI l v->WrI w2 b l v from hPIb) _ _ hp0;obtain⟨d0,d1,d2⟩:=(show∀e,e<cn->w2.cell? ⟨cb,co+e*3,none⟩=some (.int .i64 (cl e))∧w2.cell? ⟨cb,co+e*3+1,none⟩=some (.slice (some ⟨ub e,uo e,none⟩) (un e) (uc e))∧w2.cell? ⟨cb,co+e*3+2,none⟩=some (.slice (some ⟨db e,dO e,none⟩) (dn e) (dc e))from hch) k hp;obtain⟨⟨u1,u2,u3,u4⟩,v1,v2,v3,v4⟩:=(show∀e,e<cn->(0<un e∧un e+dn e<=900∧ub e<b∧∀j,j<un e->w2.cell? ⟨ub e,uo e+j,none⟩=some (.int .i64 (U e j)))∧(0<dn e∧dn e<=900∧db e<b∧∀j,j<dn e->w2.cell? ⟨db e,dO e+j,none⟩=some (.int .i64 (Dv e j)))from huh) k hp;rw[<-hw.bel.cell (p:=⟨cb,co+k*3,none⟩) hcb']at d0;rw[<-hw.bel.cell (p:=⟨cb,co+k*3+1,none⟩) hcb']at d1;rw[<-hw.bel.cell (p:=⟨cb,co+k*3+2,none⟩) hcb']at d2;have hwh:Hid (WrI w2 b TL wr):=hw;have hnu:Hid (∀v,Below b w2 v->∀j u,((List.range (un k)).map (fun i=>Value.int .i64 (U k i)))[j]? =some u->v.cell? ((⟨ub k,uo k,none⟩:Addr).add j)=some u):=fun v hv=>news_ok hv u3 u4;have hnd:Hid (∀v,Below b w2 v->∀j u,((List.range (dn k)).map (fun i=>Value.int .i64 (Dv k i)))[j]? =some u->v.cell? ((⟨db k,dO k,none⟩:Addr).add j)=some u):=fun v hv=>news_ok hv v3 v4;have hbw:Hid (Below b w2 wr):=hw.bel;have hbz:b<=wr.heap.size:=Nat.le_trans hb hw.bel.size;clear hw u4 v4 hT
   go_wp2
   obtain⟨wA,hwA⟩:∃wA,wA=wr.alloc (.cells #[.int .i64 (cl k),.slice (some ⟨ub k,uo k,none⟩) (un k) (uc k),.slice (some ⟨db k,dO k,none⟩) (dn k) (dc k)] 37):=⟨_,rfl⟩;have hA0:wA.heap[wr.heap.size]? =some (.cells #[.int .i64 (cl k),.slice (some ⟨ub k,uo k,none⟩) (un k) (uc k),.slice (some ⟨db k,dO k,none⟩) (dn k) (dc k)] 37 (0,0)):=by rw[hwA];exact alloc_new wr _
   have e0:wA.cell? ⟨wr.heap.size,0,none⟩=some (.int .i64 (cl k)):=by rw[Lib.cell_of_heap hA0];rfl
   have e1:wA.cell? ⟨wr.heap.size,1,none⟩=some (.slice (some ⟨ub k,uo k,none⟩) (un k) (uc k)):=by rw[Lib.cell_of_heap hA0];rfl
   have e2:wA.cell? ⟨wr.heap.size,2,none⟩=some (.slice (some ⟨db k,dO k,none⟩) (dn k) (dc k)):=by rw[Lib.cell_of_heap hA0];rfl
   have hsA:wA.heap.size=wr.heap.size+1:=by rw[hwA];simp
   have hbA:Below wr.heap.size wr wA:=by rw[hwA];exact(Below.refl _ wr).alloc (AC _) _
   rw[<-hwA];obtain⟨s5,hs5⟩:∃s5,s5=wr.heap.size:=⟨_,rfl⟩;rw[<-hs5]at e0 e1 e2 hsA hbA⊢;have hs5h:Hid (s5=wr.heap.size):=hs5;have hA0h:Hid (wA.heap[s5]? =some (.cells #[.int .i64 (cl k),.slice (some ⟨ub k,uo k,none⟩) (un k) (uc k),.slice (some ⟨db k,dO k,none⟩) (dn k) (dc k)] 37 (0,0))):=by rw[hs5];exact hA0
   have hbs:b<=s5:=by omega
   have hbs2:b<s5:=by have:=(show Below b w2 wr from hbw).size;omega
   clear hwA hA0 hs5 d0 d1 d2;have hq2:1+un k+dn k<=100000:=by omega
   have hbAh:Hid (Below s5 wr wA):=hbA;clear hbA
   go_region_held3 (fun w'=>w'.cell? ⟨s5,0,none⟩=some (.int .i64 (cl k))∧w'.cell? ⟨s5,1,none⟩=some (.slice (some ⟨ub k,uo k,none⟩) (un k) (uc k))∧w'.cell? ⟨s5,2,none⟩=some (.slice (some ⟨db k,dO k,none⟩) (dn k) (dc k)))
    (first
     |go_keep
     |(refine⟨?_,?_,?_⟩<;>assumption)
     |(go_split_ands
       refine⟨?_,?_,?_⟩
       ·(rw[hgrow.cell_far _ (by simp;omega) (by first|(simp[Value.ownBlock];done)|(simp[Value.ownBlock];omega))];assumption)
       ·(rw[hgrow.cell_far _ (by simp;omega) (by first|(simp[Value.ownBlock];done)|(simp[Value.ownBlock];omega))];assumption)
       ·(rw[hgrow.cell_far _ (by simp;omega) (by first|(simp[Value.ownBlock];done)|(simp[Value.ownBlock];omega))];assumption)))
    (first
     |(refine step_append_lies _ (by rfl) _ _ _ (by rfl) (s5+1) 3 i0 _ 1 8 Tryz.underlying35 hi hz0 hz1 hz2 rfl (by omega) (.slice (some ⟨s5+1,0,none⟩) 1 1) 1 [.int .i64 (cl k)] (by rfl) (own_lit _ (cl k) (s5+1) hsA) ⟨ub k,uo k,none⟩ (un k) (uc k) ((List.range (un k)).map (fun i=>Value.int .i64 (U k i))) (by rfl) (by simp) ((show∀v,Below b w2 v->∀j u,((List.range (un k)).map (fun i=>Value.int .i64 (U k i)))[j]? =some u->v.cell? ((⟨ub k,uo k,none⟩:Addr).add j)=some u from hnu) _ (((show Below b w2 wr from hbw).trans ((show Below s5 wr wA from hbAh).mono hbs)).drew.alloc (by simp;omega) _)) (one_ints _ _) u1 (by unfold maxLen;omega) (by omega) (by simp;omega) (s5+2) (by simp;omega) ?_;intro g6 cap6 w6 hown6 hgrow hat6 hlt6;
       have hb6:Below (s5+1) wA w6:=((Below.drew (Below.refl (s5+1) wA)).alloc (by simp;omega) _).grown hgrow (by simp;omega) (fun k hk=>by cases hk;exact AC _);have hz6:s5+1<=w6.heap.size:=(by have:=hb6.size;omega))
     |(refine step_append_lies _ (by rfl) _ _ _ (by rfl) (s5+1) 3 i0 _ 1 8 Tryz.underlying35 hi hz0 hz1 hz2 rfl (by omega) (.slice (some ⟨g6,0,none⟩) (1+un k) cap6) (1+un k) ([.int .i64 (cl k)]++(List.range (un k)).map (fun i=>Value.int .i64 (U k i))) (by rfl) hown6 ⟨db k,dO k,none⟩ (dn k) (dc k) ((List.range (dn k)).map (fun i=>Value.int .i64 (Dv k i))) (by rfl) (by simp) ((show∀v,Below b w2 v->∀j u,((List.range (dn k)).map (fun i=>Value.int .i64 (Dv k i)))[j]? =some u->v.cell? ((⟨db k,dO k,none⟩:Addr).add j)=some u from hnd) _ (((show Below b w2 wr from hbw).trans ((show Below s5 wr wA from hbAh).mono hbs)).trans (hb6.mono (by omega)))) (one_ints _ _) v1 (by unfold maxLen;omega) (by omega) hz6 w6.heap.size rfl ?_;intro g7 cap7 w7 hown7 hgrow hat7 hlt7;
       have hg6:s5+1<=g6:=(hat6.elim (fun e=>by have e:s5+1=g6:=Option.some.inj e;omega) (fun e=>by omega));have hb7:Below (s5+1) wA w7:=hb6.grown hgrow hz6 (fun k hk=>by cases hk;exact hg6);have hw7:WrI w2 b TL w7:=(show WrI w2 b TL wr from hwh).step hb (((show Below s5 wr wA from hbAh).trans (hb7.mono (by omega))).mono (by rw[show s5=wr.heap.size from hs5h];exact AC _));have hg7:g7≠b:=(hat7.elim (fun e=>by have e:g6=g7:=Option.some.inj e;omega) (fun e=>by omega)))
     |(go_at_call 55;refine(ints_G hw7 (show∀v,Below b w2 v->Wd v from hWh) hb sCake (some ⟨g7,0,none⟩) g7 0 (1+un k+dn k) cap7 (crF (cl k) (un k) (U k) (Dv k)) (fun _=>rfl) (crF_iR (hr1 k) (hr2 k) (hr3 k)) (crow_cells hown7 hg7) (by have h9:TL.length<=100000000:=hlT;have h8:sCake.size=4:=rfl;omega)).mono ?_;rintro e w8 ⟨rfl,h8,hk8⟩;
       have h58:w8.heap[s5]? =some (.cells #[.int .i64 (cl k),.slice (some ⟨ub k,uo k,none⟩) (un k) (uc k),.slice (some ⟨db k,dO k,none⟩) (dn k) (dc k)] 37 (0,0)):=hk8 s5 _ ((hb7.block s5 (by omega)).trans hA0h) (fun e=>by have e:s5=b:=Option.some.inj e;omega) (fun c fz e=>by cases e);have f80:w8.cell? ⟨s5,0,none⟩=some (.int .i64 (cl k)):=(by rw[Lib.cell_of_heap h58];rfl);have f81:w8.cell? ⟨s5,1,none⟩=some (.slice (some ⟨ub k,uo k,none⟩) (un k) (uc k)):=(by rw[Lib.cell_of_heap h58];rfl);have f82:w8.cell? ⟨s5,2,none⟩=some (.slice (some ⟨db k,dO k,none⟩) (dn k) (dc k)):=(by rw[Lib.cell_of_heap h58];rfl)))
   have hbx:=(show∀l v,PI l v->v.heap[b0]? =some (.cells #[c0,.slice (some ⟨cb,co,none⟩) cn cc,.slice pa pn pcp,c3,.slice wa wn wcp,c5,c6,c7,c8,c9,c10,c11,c12,c13,c14] 60 (0,0))from hPId) _ _ hp0;have hlt0:b0<wr.heap.size:=(A1.1 hbx).1;have h7b:w7.heap[b0]? =wr.heap[b0]? :=by
    rw[hb7.block b0 (by rw[show s5=wr.heap.size from hs5h];omega),(show Below s5 wr wA from hbAh).block b0 (by rw[show s5=wr.heap.size from hs5h];omega)]
   have h8b:w8.heap[b0]? =wr.heap[b0]? :=by
    rw[hbx];exact hk8 b0 _ (h7b.trans hbx) (fun e=>by have e:b0=b:=Option.some.inj e;omega) (fun c fz e=>by cases e)
   have hpN:Hid (PI (L++lnL sCake (fun e=>crF (cl e) (un e) (U e) (Dv e)) (fun e=>1+un e+dn e) (k+1)) w8):=(show∀l l' v v',PI l v->WrI w2 b l' v'->v'.heap[b0]? =v.heap[b0]? ->PI l' v' from hPIc) _ _ _ _ hp0 (by
    have e9:L++lnL sCake (fun e=>crF (cl e) (un e) (U e) (Dv e)) (fun e=>1+un e+dn e) (k+1)=TL++by_ sCake++nuL (crF (cl k) (un k) (U k) (Dv k)) (1+un k+dn k)++[10]:=by
     rw[show TL=_ from hTL,show lnL sCake (fun e=>crF (cl e) (un e) (U e) (Dv e)) (fun e=>1+un e+dn e) (k+1)=lnL sCake (fun e=>crF (cl e) (un e) (U e) (Dv e)) (fun e=>1+un e+dn e) k++(by_ sCake++nuL (crF (cl k) (un k) (U k) (Dv k)) (1+un k+dn k)++[10])from rfl];simp only[List.append_assoc]
    rw[e9];exact h8) h8b
   clear hbx h7b h8b h8 hk8 h58 f80 f81 f82 hw7 hown7 hown6 hgrow hb7 hb6
   go_wp2
   go_roundw
   case rel=>exact⟨k+1,by go_num,by omega,hpN⟩
   case measure=>simp[RowKit.intOf];omega
  ·have hkn:k=cn:=by omega
   subst hkn;have hbx:=(show∀l v,PI l v->v.heap[b0]? =some (.cells #[c0,.slice ca k cc,.slice pa pn pcp,c3,.slice wa wn wcp,c5,c6,c7,c8,c9,c10,c11,c12,c13,c14] 60 (0,0))from hPId) _ _ hp0;have f2:wr.cell? ⟨b0,2,none⟩=some (.slice pa pn pcp):=by rw[Lib.cell_of_heap hbx];rfl
   rw[<-show w.heap.size=b0 from hb0h]at f2;have hp0h:Hid (PI TL wr):=hp0;have hlT1:Hid (TL.length<=100000000):=hlT;clear hbx hp0 hlT hT
   go_wp2
   clear f2;have hT2:Hid (∀k,k<=pn->(TL++rnL sPiece (fun e=>pxF (S e)) (fun e=>2*sn e) k).length<=300000000):=fun k hk=>by
    have h1:=rnL_len (word:=sPiece) (x:=fun e=>pxF (S e)) (n:=fun e=>2*sn e) (by decide) (fun e j=>pxF_iQ (hr4 e) j) k (fun e he=>by
     have:=((show∀e,e<pn->sn e<=900∧(0<sn e->sa e=some ⟨sb e,so e,none⟩∧sb e<b)∧∀i,i<sn e->∀c,c<4->w2.cell? ⟨sb e,so e+i*4+c,none⟩=some (.int .i64 (S e i c))from hsah) e (by omega)).1;show 2*sn e<=2000;omega)
    have h2:k*100000<=1000*100000:=AH _ (by omega);have h3:TL.length<=100000000:=hlT1;rw[AG];omega
   go_loopw [36] (fun i wr=>∃k:Nat,i=.int .i64 k∧k<=pn∧PI (TL++rnL sPiece (fun e=>pxF (S e)) (fun e=>2*sn e) k) wr) (fun i _=>pn-(RowKit.intOf i).toNat)
   case atStart=>
    refine⟨0,rfl,Nat.zero_le _,?_⟩;rw[show TL++rnL sPiece (fun e=>pxF (S e)) (fun e=>2*sn e) 0=TL from List.append_nil _];exact hp0h
   case round=>
    obtain⟨m,rfl,hm,hq0⟩:=hrel;obtain⟨TM,hTM⟩:∃TM,Hid (TM=TL++rnL sPiece (fun e=>pxF (S e)) (fun e=>2*sn e) m):=⟨_,rfl⟩;rw[<-show TM=_ from hTM]at hq0;have hlM:Hid (TM.length<=300000000):=by
     show _<=_;rw[show TM=_ from hTM];exact(show∀k,k<=pn->(TL++rnL sPiece (fun e=>pxF (S e)) (fun e=>2*sn e) k).length<=300000000 from hT2) m hm
    by_cases hp:m<pn
    ·obtain⟨ha',hcb'⟩:=(show 0<pn->pa=some ⟨pb,po,none⟩∧pb<b from hpah) (by omega);subst ha';have hw:=(show∀l v,PI l v->WrI w2 b l v from hPIb) _ _ hq0;have d0:=(show∀e,e<pn->w2.cell? ⟨pb,po+e,none⟩=some (.slice (sa e) (sn e) (sc e))from hpsh) m hp;obtain⟨u1,u2,u3⟩:=(show∀e,e<pn->sn e<=900∧(0<sn e->sa e=some ⟨sb e,so e,none⟩∧sb e<b)∧∀i,i<sn e->∀c,c<4->w2.cell? ⟨sb e,so e+i*4+c,none⟩=some (.int .i64 (S e i c))from hsah) m hp;rw[<-hw.bel.cell (p:=⟨pb,po+m,none⟩) hcb']at d0;obtain⟨s5,hs5⟩:∃s5,wr.heap.size=s5:=⟨_,rfl⟩;have hs5h:Hid (wr.heap.size=s5):=hs5;have hbz:b<s5:=by have:=hw.bel.size;omega
     have hwh:Hid (WrI w2 b TM wr):=hw;have u2h:Hid (0<sn m->sa m=some ⟨sb m,so m,none⟩∧sb m<b):=u2;have u3h:Hid (∀i,i<sn m->∀c,c<4->w2.cell? ⟨sb m,so m+i*4+c,none⟩=some (.int .i64 (S m i c))):=u3;have hq0h:Hid (PI TM wr):=hq0;have hlt0:b0<s5:=by
      have:=(A1.1 ((show∀l v,PI l v->v.heap[b0]? =some (.cells #[c0,.slice ca k cc,.slice (some ⟨pb,po,none⟩) pn pcp,c3,.slice wa wn wcp,c5,c6,c7,c8,c9,c10,c11,c12,c13,c14] 60 (0,0))from hPId) _ _ hq0)).1;omega
     clear hw u2 u3 hT2 hs5 hq0
     go_wp2
     clear d0
     go_loopw [8,42] (fun e i wv=>∃q:Nat,i=.int .i64 q∧q<=sn m∧wv.ownsRow s5 40 2 e (2*q) (spL (S m) q)∧Below s5 wr wv) (fun e i _=>sn m-(RowKit.intOf i).toNat)
     case atStart=>
      exact⟨0,rfl,Nat.zero_le _,World.ownsRow_nil _ _ _ _,by rw[<-show wr.heap.size=s5 from hs5h];exact Below.refl _ _⟩
     case round=>
      obtain⟨q,rfl,hq,hrow,hbv⟩:=hrel;have hwI:WrI w2 b TM wr:=(show WrI w2 b TM _ from hwh).step hb (by rw[show _=s5 from hs5h];exact hbv);have hz5:s5<=wr.heap.size:=by have:=hbv.size;rw[show _=s5 from hs5h]at this;exact this
      have hrowh:Hid (wr.ownsRow s5 40 2 u8 (2*q) (spL (S m) q)):=hrow;by_cases hp3:q<sn m
      ·obtain⟨u4,u5⟩:=(show 0<sn m->sa m=some ⟨sb m,so m,none⟩∧sb m<b from u2h) (by omega);have dd:∀c,c<4->wr.cell? ⟨sb m,so m+q*4+c,none⟩=some (.int .i64 (S m q c)):=fun c hc=>(hwI.bel.cell (p:=⟨sb m,so m+q*4+c,none⟩) u5).trans ((show∀i,i<sn m->∀c,c<4->w2.cell? ⟨sb m,so m+i*4+c,none⟩=some (.int .i64 (S m i c))from u3h) q hp3 c hc);have d0:wr.cell? ⟨sb m,so m+q*4,none⟩=some (.int .i64 (S m q 0)):=dd 0 (by omega);have d1:=dd 1 (by omega);have d2:=dd 2 (by omega);have d3:=dd 3 (by omega);have hbvh:Hid (Below s5 _ wr):=hbv;have hnl:((wr.alloc (.cells #[.int .i64 (S m q 0),.int .i64 (S m q 1),.int .i64 (S m q 2),.int .i64 (S m q 3)] 43)).alloc (.cells #[.int .i64 (S m q 0),.int .i64 (S m q 1),.int .i64 (S m q 2),.int .i64 (S m q 3)] 40)).heap[wr.heap.size+1]? =some (.cells #[.int .i64 (S m q 0),.int .i64 (S m q 1),.int .i64 (S m q 2),.int .i64 (S m q 3)] 40 (0,0)):=by
        have h9:=alloc_new (wr.alloc (.cells #[.int .i64 (S m q 0),.int .i64 (S m q 1),.int .i64 (S m q 2),.int .i64 (S m q 3)] 43)) (.cells #[.int .i64 (S m q 0),.int .i64 (S m q 1),.int .i64 (S m q 2),.int .i64 (S m q 3)] 40);rw[show(wr.alloc (.cells #[.int .i64 (S m q 0),.int .i64 (S m q 1),.int .i64 (S m q 2),.int .i64 (S m q 3)] 43)).heap.size=wr.heap.size+1 by simp]at h9;exact h9
       clear dd hwI hbv hrow;rw[u4]
       go_wp2_with (at_builtin;go_loud (refine wpList_append_lies _ rfl _ _ 68 rfl s5 40 i1 _ 2 16 Tryz.underlying68 hj hy0 hy1 hy2 rfl (by omega) u8 (2*q) (spL (S m) q) rfl (((show wr.ownsRow s5 40 2 u8 (2*q) (spL (S m) q)from hrowh).alloc _).alloc _) ⟨wr.heap.size+1,0,none⟩ 2 2 [.int .i64 (S m q 0),.int .i64 (S m q 1),.int .i64 (S m q 2),.int .i64 (S m q 3)] rfl rfl (World.news_of_block (cs:= #[.int .i64 (S m q 0),.int .i64 (S m q 1),.int .i64 (S m q 2),.int .i64 (S m q 3)]) (t:=40) (fr:=(0,0)) hnl) (by simp[Value.oneCell']) (by omega) (by unfold maxLen;omega) (by omega) (by simp;omega) (wr.heap.size+2) (by simp) ?_;intro g6 cap6 w6 hown6 hgrow hat6 hlt6))
       go_roundw
       case rel=>
        refine⟨q+1,by go_num,by omega,?_,?_⟩
        ·rw[show 2*(q+1)=2*q+2 by omega];exact hown6
        ·refine(show Below s5 _ wr from hbvh).trans ((((Below.refl s5 wr).alloc hz5 _).alloc (by simp;omega) _).grown hgrow (by simp;omega) (fun j hj=>?_));rcases(show wr.ownsRow s5 40 2 u8 (2*q) (spL (S m) q)from hrowh).2 with⟨e,_⟩|⟨g,_,_,e,hg,_⟩
         ·rw[e]at hj;cases hj
         ·rw[e]at hj;cases hj;exact hg
       case measure=>simp[RowKit.intOf];omega
      ·have hqn:q=sn m:=by omega
       subst hqn;obtain⟨ea,ecap,eg,rfl,he1,he2⟩:=ends_cells (show wr.ownsRow s5 40 2 u8 (2*sn m) (spL (S m) (sn m))from hrowh) hbz;have hct:=ratios_G hwI (show∀v,Below b w2 v->Wd v from hWh) hb sPiece ea eg 0 (2*sn m) ecap (pxF (S m)) he1 (pxF_iQ (hr4 m)) he2 (by have h9:TM.length<=300000000:=hlM;have h8:sPiece.size=5:=rfl;omega);have hct2:Calls Tryz.prog 111 #[.pointer (some ⟨b,0,none⟩),.string sPiece,.slice ea (2*sn m) ecap] wr fun e w'=>e=.returned (.tuple #[])∧PI (TL++rnL sPiece (fun e=>pxF (S e)) (fun e=>2*sn e) (m+1)) w':=hct.mono fun e w' ⟨h1,h2,h3⟩=>⟨h1,by
        have hbx:=(show∀l v,PI l v->v.heap[b0]? =some (.cells #[c0,.slice ca k cc,.slice (some ⟨pb,po,none⟩) pn pcp,c3,.slice wa wn wcp,c5,c6,c7,c8,c9,c10,c11,c12,c13,c14] 60 (0,0))from hPId) _ _ hq0h;have hbx2:wr.heap[b0]? =some (.cells #[c0,.slice ca k cc,.slice (some ⟨pb,po,none⟩) pn pcp,c3,.slice wa wn wcp,c5,c6,c7,c8,c9,c10,c11,c12,c13,c14] 60 (0,0)):=by rw[hbv.block b0 hlt0];exact hbx
        refine(show∀l l' v v',PI l v->WrI w2 b l' v'->v'.heap[b0]? =v.heap[b0]? ->PI l' v' from hPIc) _ _ _ _ hq0h ?_ ?_
        ·have e9:TL++rnL sPiece (fun e=>pxF (S e)) (fun e=>2*sn e) (m+1)=TM++by_ sPiece++raL (pxF (S m)) (2*sn m)++[10]:=by
          rw[show TM=_ from hTM,show rnL sPiece (fun e=>pxF (S e)) (fun e=>2*sn e) (m+1)=rnL sPiece (fun e=>pxF (S e)) (fun e=>2*sn e) m++(by_ sPiece++raL (pxF (S m)) (2*sn m)++[10])from rfl];simp only[List.append_assoc]
         rw[e9];exact h2
        ·rw[hbx];exact h3 b0 _ hbx2 (fun e=>by have e:b0=b:=Option.some.inj e;omega) (fun c fz e=>by cases e)⟩
       clear he1 he2 hct hwI hbv hrow
       go_wp2_with (first|(go_at_call 111;refine hct2.mono ?_))
       rintro e w6 ⟨rfl,h6⟩
       go_wp2
       go_roundw
       case rel=>exact⟨m+1,by go_num,by omega,h6⟩
       case measure=>simp[RowKit.intOf];omega
    ·have hmn:m=pn:=by omega
     subst hmn;have hbx:=(show∀l v,PI l v->v.heap[b0]? =some (.cells #[c0,.slice ca k cc,.slice pa m pcp,c3,.slice wa wn wcp,c5,c6,c7,c8,c9,c10,c11,c12,c13,c14] 60 (0,0))from hPId) _ _ hq0;have f4:wr.cell? ⟨b0,4,none⟩=some (.slice wa wn wcp):=by rw[Lib.cell_of_heap hbx];rfl
     rw[<-show w.heap.size=b0 from hb0h]at f4;have hp0h2:Hid (PI TM wr):=hq0;clear hbx hq0 hT2
     go_wp2
     clear f4;have hT3:Hid (∀k,k<=wn->(TM++rnL sWorth Wq vn k).length<=500000000):=fun k hk=>by
      have h1:=rnL_len (word:=sWorth) (x:=Wq) (n:=vn) (by decide) hr5 k (fun e he=>by
       have:=((show∀e,e<wn->vn e<=900∧(0<vn e->va e=some ⟨vb e,vo e,none⟩∧vb e<b)∧∀j,j<vn e->w2.cell? ⟨vb e,vo e+j*2,none⟩=some (.int .i64 (Wq e j).1)∧w2.cell? ⟨vb e,vo e+j*2+1,none⟩=some (.int .i64 (Wq e j).2)from hvah) e (by omega)).1;omega)
      have h2:k*100000<=1000*100000:=AH _ (by omega);have h3:TM.length<=300000000:=hlM;rw[AG];omega
     go_loopw [62] (fun i wv=>∃q:Nat,i=.int .i64 q∧q<=wn∧PI (TM++rnL sWorth Wq vn q) wv) (fun i _=>wn-(RowKit.intOf i).toNat)
     case atStart=>
      refine⟨0,rfl,Nat.zero_le _,?_⟩;rw[show TM++rnL sWorth Wq vn 0=TM from List.append_nil _];exact hp0h2
     case round=>
      obtain⟨q,rfl,hq,hq0⟩:=hrel;obtain⟨TN,hTN⟩:∃TN,Hid (TN=TM++rnL sWorth Wq vn q):=⟨_,rfl⟩;rw[<-show TN=_ from hTN]at hq0;have hlN:Hid (TN.length<=500000000):=by
       show _<=_;rw[show TN=_ from hTN];exact(show∀k,k<=wn->(TM++rnL sWorth Wq vn k).length<=500000000 from hT3) q hq
      have hw:=(show∀l v,PI l v->WrI w2 b l v from hPIb) _ _ hq0;by_cases hp5:q<wn
      ·obtain⟨ha',hcb'⟩:=(show 0<wn->wa=some ⟨wb,wo,none⟩∧wb<b from hwah) (by omega);subst ha';have d0:=(show∀e,e<wn->w2.cell? ⟨wb,wo+e,none⟩=some (.slice (va e) (vn e) (vc e))from hwsh) q hp5;obtain⟨u1,u2,u3⟩:=(show∀e,e<wn->vn e<=900∧(0<vn e->va e=some ⟨vb e,vo e,none⟩∧vb e<b)∧∀j,j<vn e->w2.cell? ⟨vb e,vo e+j*2,none⟩=some (.int .i64 (Wq e j).1)∧w2.cell? ⟨vb e,vo e+j*2+1,none⟩=some (.int .i64 (Wq e j).2)from hvah) q hp5;rw[<-hw.bel.cell (p:=⟨wb,wo+q,none⟩) hcb']at d0;have hct:=ratios_G hw (show∀v,Below b w2 v->Wd v from hWh) hb sWorth (va q) (vb q) (vo q) (vn q) (vc q) (Wq q) (fun h=>(u2 h).1) (hr5 q) (fun w' h1 _ j hj=>by
        rw[(hw.bel.trans h1).cell (p:=⟨vb q,vo q+j*2,none⟩) (u2 (by omega)).2,(hw.bel.trans h1).cell (p:=⟨vb q,vo q+j*2+1,none⟩) (u2 (by omega)).2];exact u3 j hj) (by have h9:TN.length<=500000000:=hlN;have h8:sWorth.size=5:=rfl;omega)
       have hct2:Calls Tryz.prog 111 #[.pointer (some ⟨b,0,none⟩),.string sWorth,.slice (va q) (vn q) (vc q)] wr fun e w'=>e=.returned (.tuple #[])∧PI (TM++rnL sWorth Wq vn (q+1)) w':=hct.mono fun e w' ⟨h1,h2,h3⟩=>⟨h1,by
        have hbx:=(show∀l v,PI l v->v.heap[b0]? =some (.cells #[c0,.slice ca k cc,.slice pa m pcp,c3,.slice (some ⟨wb,wo,none⟩) wn wcp,c5,c6,c7,c8,c9,c10,c11,c12,c13,c14] 60 (0,0))from hPId) _ _ hq0;refine(show∀l l' v v',PI l v->WrI w2 b l' v'->v'.heap[b0]? =v.heap[b0]? ->PI l' v' from hPIc) _ _ _ _ hq0 ?_ ?_
        ·have e9:TM++rnL sWorth Wq vn (q+1)=TN++by_ sWorth++raL (Wq q) (vn q)++[10]:=by
          rw[show TN=_ from hTN,show rnL sWorth Wq vn (q+1)=rnL sWorth Wq vn q++(by_ sWorth++raL (Wq q) (vn q)++[10])from rfl];simp only[List.append_assoc]
         rw[e9];exact h2
        ·rw[hbx];exact h3 b0 _ hbx (fun e=>by have e:b0=b:=Option.some.inj e;omega) (fun c fz e=>by cases e)⟩
       clear hct hw u2 u3 hq0 hT3
       go_wp2_with (first|(go_at_call 111;refine hct2.mono ?_))
       rintro e w6 rfl h6
       go_wp2
       go_roundw
       case rel=>exact⟨q+1,by go_num,by omega,h6⟩
       case measure=>simp[RowKit.intOf];omega
      ·have hqn:q=wn:=by omega
       subst hqn;have hfin:Hid (WrI w2 b (L++lnL sCake (fun e=>crF (cl e) (un e) (U e) (Dv e)) (fun e=>1+un e+dn e) k++rnL sPiece (fun e=>pxF (S e)) (fun e=>2*sn e) m++rnL sWorth Wq vn q) wr):=by
        show WrI _ _ _ _;rw[show TN=_ from hTN,show TM=_ from hTM,show TL=_ from hTL]at hw;exact hw
       clear hw hq0 hT3
       go_wp2
       go_end0
       exact⟨rfl,hfin⟩
theorem idx_cake(v:World):(Instr.index 122 (.agg #[.string sCake,.string sGoods,.string sRent,.string sSettle]) (.int .u8 (IntKind.u8.wrap 0))).run Tryz.prog v=.ok (.string sCake) v:=by kernel_rfl
structure CakeF(w2:World)(b:Nat)(ca pa wa:Option Addr)(cn cc pn pcp wn wcp cb co pb po wb wo:Nat)(ln:Nat->Int)(ub uo un uc db dO dn dc:Nat->Nat)(U Dv:Nat->Nat->Int)(sa va:Nat->Option Addr)(sb so sn sc vb vo vn vc:Nat->Nat)(S:Nat->Nat->Nat->Int)(Wq:Nat->Nat->Int×Int):Prop where
 hca:0<cn->ca=some ⟨cb,co,none⟩
 hcb:0<cn->cb<b
 hc:∀e,e<cn->w2.cell? ⟨cb,co+e*3,none⟩=some (.int .i64 (ln e))∧w2.cell? ⟨cb,co+e*3+1,none⟩=some (.slice (some ⟨ub e,uo e,none⟩) (un e) (uc e))∧w2.cell? ⟨cb,co+e*3+2,none⟩=some (.slice (some ⟨db e,dO e,none⟩) (dn e) (dc e))
 hu:∀e,e<cn->(0<un e∧un e+dn e<=900∧ub e<b∧∀j,j<un e->w2.cell? ⟨ub e,uo e+j,none⟩=some (.int .i64 (U e j)))∧(0<dn e∧dn e<=900∧db e<b∧∀j,j<dn e->w2.cell? ⟨db e,dO e+j,none⟩=some (.int .i64 (Dv e j)))
 hr1:∀e,iR (ln e)=true
 hr2:∀e j,iR (U e j)=true
 hr3:∀e j,iR (Dv e j)=true
 hcn:cn<=1000
 hpa:0<pn->pa=some ⟨pb,po,none⟩∧pb<b
 hps:∀e,e<pn->w2.cell? ⟨pb,po+e,none⟩=some (.slice (sa e) (sn e) (sc e))
 hsa:∀e,e<pn->sn e<=900∧(0<sn e->sa e=some ⟨sb e,so e,none⟩∧sb e<b)∧∀i,i<sn e->∀c,c<4->w2.cell? ⟨sb e,so e+i*4+c,none⟩=some (.int .i64 (S e i c))
 hwa:0<wn->wa=some ⟨wb,wo,none⟩∧wb<b
 hws:∀e,e<wn->w2.cell? ⟨wb,wo+e,none⟩=some (.slice (va e) (vn e) (vc e))
 hva:∀e,e<wn->vn e<=900∧(0<vn e->va e=some ⟨vb e,vo e,none⟩∧vb e<b)∧∀j,j<vn e->w2.cell? ⟨vb e,vo e+j*2,none⟩=some (.int .i64 (Wq e j).1)∧w2.cell? ⟨vb e,vo e+j*2+1,none⟩=some (.int .i64 (Wq e j).2)
 hr4:∀e i c,Rt.iR (S e i c)=true
 hr5:∀e j,iQ (Wq e j)=true
 hpn:pn<=1000
 hwn:wn<=1000
theorem CakeF.later{w w2:World}{n b:Nat}{ca pa wa:Option Addr}{cn cc pn pcp wn wcp cb co pb po wb wo:Nat}{ln:Nat->Int}{ub uo un uc db dO dn dc:Nat->Nat}{U Dv:Nat->Nat->Int}{sa va:Nat->Option Addr}{sb so sn sc vb vo vn vc:Nat->Nat}{S:Nat->Nat->Nat->Int}{Wq:Nat->Nat->Int×Int}(h:CakeF w n ca pa wa cn cc pn pcp wn wcp cb co pb po wb wo ln ub uo un uc db dO dn dc U Dv sa va sb so sn sc vb vo vn vc S Wq)(hb:Below n w w2)(hn:n<=b):CakeF w2 b ca pa wa cn cc pn pcp wn wcp cb co pb po wb wo ln ub uo un uc db dO dn dc U Dv sa va sb so sn sc vb vo vn vc S Wq where
 hca:=h.hca
 hcb:=fun h0=>Nat.lt_of_lt_of_le (h.hcb h0) hn
 hc:=fun e he=>by
  have hcb:=h.hcb (by omega);rw[hb.cell (p:=⟨cb,co+e*3,none⟩) hcb,hb.cell (p:=⟨cb,co+e*3+1,none⟩) hcb,hb.cell (p:=⟨cb,co+e*3+2,none⟩) hcb];exact h.hc e he
 hu:=fun e he=>by
  obtain⟨⟨a1,a2,a3,a4⟩,b1,b2,b3,b4⟩:=h.hu e he;exact⟨⟨a1,a2,by omega,fun j hj=>by rw[hb.cell (p:=⟨ub e,uo e+j,none⟩) a3];exact a4 j hj⟩,b1,b2,by omega,fun j hj=>by rw[hb.cell (p:=⟨db e,dO e+j,none⟩) b3];exact b4 j hj⟩
 hr1:=h.hr1
 hr2:=h.hr2
 hr3:=h.hr3
 hcn:=h.hcn
 hpa:=fun h0=>⟨(h.hpa h0).1,Nat.lt_of_lt_of_le (h.hpa h0).2 hn⟩
 hps:=fun e he=>by rw[hb.cell (p:=⟨pb,po+e,none⟩) (h.hpa (by omega)).2];exact h.hps e he
 hsa:=fun e he=>by
  obtain⟨a1,a2,a3⟩:=h.hsa e he;exact⟨a1,fun h0=>⟨(a2 h0).1,Nat.lt_of_lt_of_le (a2 h0).2 hn⟩,fun i hi c hc=>by rw[hb.cell (p:=⟨sb e,so e+i*4+c,none⟩) (a2 (by omega)).2];exact a3 i hi c hc⟩
 hwa:=fun h0=>⟨(h.hwa h0).1,Nat.lt_of_lt_of_le (h.hwa h0).2 hn⟩
 hws:=fun e he=>by rw[hb.cell (p:=⟨wb,wo+e,none⟩) (h.hwa (by omega)).2];exact h.hws e he
 hva:=fun e he=>by
  obtain⟨a1,a2,a3⟩:=h.hva e he;exact⟨a1,fun h0=>⟨(a2 h0).1,Nat.lt_of_lt_of_le (a2 h0).2 hn⟩,fun j hj=>by rw[hb.cell (p:=⟨vb e,vo e+j*2,none⟩) (a2 (by omega)).2,hb.cell (p:=⟨vb e,vo e+j*2+1,none⟩) (a2 (by omega)).2];exact a3 j hj⟩
 hr4:=h.hr4
 hr5:=h.hr5
 hpn:=h.hpn
 hwn:=h.hwn
def dvT(cn pn wn:Nat)(ln:Nat->Int)(un dn:Nat->Nat)(U Dv:Nat->Nat->Int)(sn vn:Nat->Nat)(S:Nat->Nat->Nat->Int)(Wq:Nat->Nat->Int×Int):List UInt8:=lnL sCake (fun e=>crF (ln e) (un e) (U e) (Dv e)) (fun e=>1+un e+dn e) cn++(rnL sPiece (fun e=>pxF (S e)) (fun e=>2*sn e) pn++rnL sWorth Wq vn wn)
def caT(cn pn wn:Nat)(ln:Nat->Int)(un dn:Nat->Nat)(U Dv:Nat->Nat->Int)(sn vn:Nat->Nat)(S:Nat->Nat->Nat->Int)(Wq:Nat->Nat->Int×Int)(c:Int):List UInt8:=hdL sCake++dvT cn pn wn ln un dn U Dv sn vn S Wq++clL c
theorem CakeF.len{w2:World}{b:Nat}{ca pa wa:Option Addr}{cn cc pn pcp wn wcp cb co pb po wb wo:Nat}{ln:Nat->Int}{ub uo un uc db dO dn dc:Nat->Nat}{U Dv:Nat->Nat->Int}{sa va:Nat->Option Addr}{sb so sn sc vb vo vn vc:Nat->Nat}{S:Nat->Nat->Nat->Int}{Wq:Nat->Nat->Int×Int}(h:CakeF w2 b ca pa wa cn cc pn pcp wn wcp cb co pb po wb wo ln ub uo un uc db dO dn dc U Dv sa va sb so sn sc vb vo vn vc S Wq):(dvT cn pn wn ln un dn U Dv sn vn S Wq).length<=300000000:=by
 have h1:=lnL_len (word:=sCake) (x:=fun e=>crF (ln e) (un e) (U e) (Dv e)) (n:=fun e=>1+un e+dn e) (by decide) (fun e j=>crF_iR (h.hr1 e) (h.hr2 e) (h.hr3 e) j) cn (fun e he=>by
  have:=(h.hu e he).1.2.1;show 1+un e+dn e<=1000;omega)
 have h2:=rnL_len (word:=sPiece) (x:=fun e=>pxF (S e)) (n:=fun e=>2*sn e) (by decide) (fun e j=>pxF_iQ (h.hr4 e) j) pn (fun e he=>by
  have:=(h.hsa e he).1;show 2*sn e<=2000;omega)
 have h3:=rnL_len (word:=sWorth) (x:=Wq) (n:=vn) (by decide) h.hr5 wn (fun e he=>by have:=(h.hva e he).1;omega);have:=h.hcn;have:=h.hpn;have:=h.hwn;unfold dvT;rw[AG,AG];omega
theorem cake_F{w2:World}{b:Nat}{L:List UInt8}{w:World}{ca pa wa:Option Addr}{cn cc pn pcp wn wcp cb co pb po wb wo:Nat}{ln:Nat->Int}{ub uo un uc db dO dn dc:Nat->Nat}{U Dv:Nat->Nat->Int}{sa va:Nat->Option Addr}{sb so sn sc vb vo vn vc:Nat->Nat}{S:Nat->Nat->Nat->Int}{Wq:Nat->Nat->Int×Int}(h:WrI w2 b L w)(hW:∀v,Below b w2 v->Wd v)(hb:b<=w2.heap.size)(hb2:b<w2.heap.size)(hF:CakeF w2 b ca pa wa cn cc pn pcp wn wcp cb co pb po wb wo ln ub uo un uc db dO dn dc U Dv sa va sb so sn sc vb vo vn vc S Wq)(c0 c3 c5 c6 c7 c8 c9 c10 c11 c12 c13 c14:Value)(hlen:L.length<=1000000):
  Calls Tryz.prog 54 #[.pointer (some ⟨b,0,none⟩),.agg #[c0,.slice ca cn cc,.slice pa pn pcp,c3,.slice wa wn wcp,c5,c6,c7,c8,c9,c10,c11,c12,c13,c14]] w fun e w'=>e=.returned (.tuple #[])∧WrI w2 b (L++dvT cn pn wn ln un dn U Dv sn vn S Wq) w':=
 (cake_walk h hW hb c0 c3 c5 c6 c7 c8 c9 c10 c11 c12 c13 c14 ca pa wa cn cc pn pcp wn wcp cb co pb po wb wo ln ub uo un uc db dO dn dc U Dv hb2 hF.hca hF.hcb hF.hc hF.hu hF.hr1 hF.hr2 hF.hr3 hF.hcn hlen sa va sb so sn sc vb vo vn vc S Wq hF.hpa hF.hps hF.hsa hF.hwa hF.hws hF.hva hF.hr4 hF.hr5 hF.hpn hF.hwn).mono fun e w' ⟨h1,h2⟩=>⟨h1,by unfold dvT;rw[<-List.append_assoc,<-List.append_assoc];exact h2⟩
set_option maxHeartbeats 4000000 in
set_option maxRecDepth 1000000 in
theorem cakeT_walk(w:World)(c5 c6 c7 c9 c10 c12 c13:Value)(pc rr ld cl:Int)(ca pa wa:Option Addr)(cn cc pn pcp wn wcp cb co pb po wb wo:Nat)(ln:Nat->Int)(ub uo un uc db dO dn dc:Nat->Nat)(U Dv:Nat->Nat->Int)(sa va:Nat->Option Addr)(sb so sn sc vb vo vn vc:Nat->Nat)(S:Nat->Nat->Nat->Int)(Wq:Nat->Nat->Int×Int)(ec:Int)
  (hchk:∀w',Below w.heap.size w w'->Calls Tryz.prog 19 #[.agg #[.int .u8 1,.slice ca cn cc,.slice pa pn pcp,.int .u8 pc,.slice wa wn wcp,c5,c6,c7,.int .i64 rr,c9,c10,.int .i64 ld,c12,c13,.int .u8 cl]] w' fun e w''=>e=.returned (.int .i64 ec)∧Below w'.heap.size w' w'')
  (hWd:∀w',Below w.heap.size w w'->Wd w') (hF:ec=0->CakeF w w.heap.size ca pa wa cn cc pn pcp wn wcp cb co pb po wb wo ln ub uo un uc db dO dn dc U Dv sa va sb so sn sc vb vo vn vc S Wq) (hc:ec=0->0<=pc∧pc<=255∧0<=cl∧cl<=255):
  Calls Tryz.prog 23 #[.agg #[.int .u8 1,.slice ca cn cc,.slice pa pn pcp,.int .u8 pc,.slice wa wn wcp,c5,c6,c7,.int .i64 rr,c9,c10,.int .i64 ld,c12,c13,.int .u8 cl]] w fun e w'=>e=.returned (.tuple #[.string (txS ec (caT cn pn wn ln un dn U Dv sn vn S Wq (cl+pc))),.int .i64 (txE ec (caT cn pn wn ln un dn U Dv sn vn S Wq (cl+pc)))])∧Below w.heap.size w w':=by
 have mx:Tryz.prog.follows .mixedOrders=true:=mixed
 go_enter Tryz.func23,Tryz.ntmps23
 go_wp2_with (first|(go_at_call 19;refine(hchk _ ?_).mono ?_))
 ·exact(Below.refl _ w).alloc (AC _) _
 rintro e w1 ⟨rfl,hb1⟩;by_cases hec:ec=0
 rotate_left
 ·have hec2:(ec !=0)=true:=by simpa using hec
  go_wp2
  go_ret2
  unfold txS txE;rw[hec2];exact⟨rfl,((Below.refl _ w).alloc (AC _) _).trans (hb1.mono (by simp))⟩
 ·have hF1:=hF hec;obtain⟨p0,p1,q0,q1⟩:=hc hec;subst hec;clear hF hc
  go_wp2
  have hb0:Below w.heap.size w w1:=((Below.refl _ w).alloc (AC _) _).trans (hb1.mono (Nat.le_of_lt (alloc_lt w _)));have hN:w.heap.size<w1.heap.size:=Nat.lt_of_lt_of_le (alloc_lt w _) hb1.size;have hbox:w1.heap[w.heap.size]? =some (.cells #[.int .u8 1,.slice ca cn cc,.slice pa pn pcp,.int .u8 pc,.slice wa wn wcp,c5,c6,c7,.int .i64 rr,c9,c10,.int .i64 ld,c12,c13,.int .u8 cl] 60 (0,0)):=by
   rw[hb1.block w.heap.size (alloc_lt w _)];exact alloc_new w _
  obtain⟨w2,hw2⟩:∃w2,w2=w1.alloc (.cells #[.pointer none,.slice none 0 0] 117):=⟨_,rfl⟩;have hI0:WrI w2 w1.heap.size [] w2:=⟨Below.refl _ _,Lib.OthersKept.refl _ _ _,by rw[hw2];exact Lib.IsBuilderF.of (Lib.fresh_isBuilder 117 5 w1)⟩;have hb3:w1.heap.size<w2.heap.size:=by rw[hw2];exact alloc_lt w1 _
  have hb2:w1.heap.size<=w2.heap.size:=by rw[hw2];exact Nat.le_of_lt (alloc_lt w1 _)
  have hbel2:∀k,k<w1.heap.size->w2.heap[k]? =w1.heap[k]? :=fun k hk=>by rw[hw2];exact Below.heap_alloc w1 _ k hk
  have hbox2:∀v,Below w1.heap.size w2 v->v.heap[w.heap.size]? =some (.cells #[.int .u8 1,.slice ca cn cc,.slice pa pn pcp,.int .u8 pc,.slice wa wn wcp,c5,c6,c7,.int .i64 rr,c9,c10,.int .i64 ld,c12,c13,.int .u8 cl] 60 (0,0)):=fun v hv=>by
   rw[hv.block _ hN,hbel2 _ hN];exact hbox
  have hbv:∀v,Below w1.heap.size w2 v->Below w.heap.size w v:=fun v hv=>hb0.trans (((Below.refl _ w1).alloc (AC _) _).trans (hw2▸hv)|>.mono (by omega));have hW2:∀v,Below w1.heap.size w2 v->Wd v:=fun v hv=>hWd v (hbv v hv);rw[<-hw2];clear hw2 hbel2;generalize hbb:w1.heap.size=b at*
  obtain⟨Cq,hq1,hq2⟩:∃Cq:World->Prop,(∀v,Cq v->WrI w2 b [] v)∧∀v,WrI w2 b [] v->Cq v:=⟨fun v=>WrI w2 b [] v,fun _ h=>h,fun _ h=>h⟩;refine wp_region_quiet_tail (C:=Cq) 10 mx (by kernel_rfl) (hq2 w2.drew hI0.drew) ?_;have hq:Hid (∀v,Cq v->WrI w2 b [] v):=hq1;have hcall:∀v,Cq v->Calls Tryz.prog 53 #[] v fun e w'=>e=.returned (.agg #[.string sCake,.string sGoods,.string sRent,.string sSettle])∧Cq w':=fun v hv=>(kinds_I (hq1 v hv) hb2).mono fun e w' ⟨he,h⟩=>⟨he,hq2 _ h⟩;have hcl:Hid (∀v,Cq v->Calls Tryz.prog 53 #[] v fun e w'=>e=.returned (.agg #[.string sCake,.string sGoods,.string sRent,.string sSettle])∧Cq w'):=hcall;have hld:Hid (∀v,Cq v->v.cell? ⟨w.heap.size,0,none⟩=some (.int .u8 1)):=fun v hv=>by rw[Lib.cell_of_heap (hbox2 v (hq1 v hv).bel)];rfl
  have hFh:Hid (CakeF w w.heap.size ca pa wa cn cc pn pcp wn wcp cb co pb po wb wo ln ub uo un uc db dO dn dc U Dv sa va sb so sn sc vb vo vn vc S Wq):=hF1;clear hq1 hq2 hcall hchk hF1;dsimp only[List.take,List.drop];refine wpQuiet_step (fun K hK=>?_)
  go_simp
  refine⟨_,fun v hv=>rfl,hK _ ?_⟩;clear hK K;refine wpQuiet_step (fun K hK=>?_)
  go_simp
  refine⟨_,fun v hv=>rfl,hK _ ?_⟩;clear hK K;refine wpQuiet_step (fun K hK=>?_)
  go_simp
  refine⟨_,fun v hv=>rfl,hK _ ?_⟩;clear hK K;refine wpQuiet_step (fun K hK=>?_)
  go_simp
  refine⟨.agg #[.string sCake,.string sGoods,.string sRent,.string sSettle],fun v hv=>(show∀v,Cq v->Calls Tryz.prog 53 #[] v fun e w'=>e=.returned (.agg #[.string sCake,.string sGoods,.string sRent,.string sSettle])∧Cq w' from hcl) v hv,hK _ ?_⟩;clear hK K;refine wpQuiet_step (fun K hK=>?_)
  go_simp
  refine⟨_,fun v hv=>rfl,hK _ ?_⟩;clear hK K;refine wpQuiet_step (fun K hK=>?_)
  go_simp
  refine⟨.int .u8 1,fun v hv=>?_,hK _ ?_⟩
  ·rw[(show∀v,Cq v->v.cell? ⟨w.heap.size,0,none⟩=some (.int .u8 1)from hld) v hv];exact⟨rfl,rfl⟩
  clear hK K;refine wpQuiet_step (fun K hK=>?_)
  go_simp
  refine⟨_,fun v hv=>rfl,hK _ ?_⟩;clear hK K;refine wpQuiet_step (fun K hK=>?_)
  go_simp
  refine⟨.string sCake,fun v hv=>?_,hK _ ?_⟩
  ·rw[idx_cake v];exact⟨rfl,rfl⟩
  clear hK K;refine wpQuiet_step (fun K hK=>?_)
  go_simp
  refine⟨.string (sDocument++sCake),fun v hv=>?_,hK _ ?_⟩
  ·rw[AL (show¬9223372036854775807<9+sCake.size by have:sCake.size=4:=rfl;omega)];exact⟨rfl,rfl⟩
  clear hK K;refine wpQuiet_step (fun K hK=>?_)
  go_simp
  refine⟨.string (sDocument++sCake++⟨#[10]⟩),fun v hv=>?_,hK _ ?_⟩
  ·rw[AL (show¬9223372036854775807<sDocument.size+sCake.size+1 by have:sCake.size=4:=rfl;have:sDocument.size=9:=rfl;omega)];exact⟨rfl,rfl⟩
  clear hK K;refine wpQuiet_nil ?_;intro w3 h3;have h3':WrI w2 b [] w3:=(show∀v,Cq v->WrI w2 b [] v from hq) w3 h3;have hsz:([]:List UInt8).length+(sDocument++sCake++⟨#[10]⟩).size<=140737488355328:=by decide
  have hS:[]++by_ (sDocument++sCake++⟨#[10]⟩)=hdL sCake:=by rw[by_app,by_app];rfl
  generalize sDocument++sCake++⟨#[10]⟩=Sx at*
  clear hq hcl hld h3
  go_wp2_with (first|(go_at_call 52;refine(write_I h3' hb2 Sx hsz).mono ?_))
  rintro e w4 ⟨rfl,h4⟩;rw[hS]at h4;clear hS hsz h3';have hh2:Hid (∀v,Below b w2 v->v.heap[w.heap.size]? =some (.cells #[.int .u8 1,.slice ca cn cc,.slice pa pn pcp,.int .u8 pc,.slice wa wn wcp,c5,c6,c7,.int .i64 rr,c9,c10,.int .i64 ld,c12,c13,.int .u8 cl] 60 (0,0))):=hbox2;have hF2:CakeF w2 b ca pa wa cn cc pn pcp wn wcp cb co pb po wb wo ln ub uo un uc db dO dn dc U Dv sa va sb so sn sc vb vo vn vc S Wq:=(show CakeF w w.heap.size ca pa wa cn cc pn pcp wn wcp cb co pb po wb wo ln ub uo un uc db dO dn dc U Dv sa va sb so sn sc vb vo vn vc S Wq from hFh).later (hbv w2 (Below.refl _ _)) (by omega);have hb4:=hbox2 w4 h4.bel;have f0:w4.cell? ⟨w.heap.size,0,none⟩=some (.int .u8 1):=by rw[Lib.cell_of_heap hb4];rfl
  have f1:w4.cell? ⟨w.heap.size,1,none⟩=some (.slice ca cn cc):=by rw[Lib.cell_of_heap hb4];rfl
  have f2:w4.cell? ⟨w.heap.size,2,none⟩=some (.slice pa pn pcp):=by rw[Lib.cell_of_heap hb4];rfl
  have f3:w4.cell? ⟨w.heap.size,3,none⟩=some (.int .u8 pc):=by rw[Lib.cell_of_heap hb4];rfl
  have f4:w4.cell? ⟨w.heap.size,4,none⟩=some (.slice wa wn wcp):=by rw[Lib.cell_of_heap hb4];rfl
  have f5:w4.cell? ⟨w.heap.size,5,none⟩=some (c5):=by rw[Lib.cell_of_heap hb4];rfl
  have f6:w4.cell? ⟨w.heap.size,6,none⟩=some (c6):=by rw[Lib.cell_of_heap hb4];rfl
  have f7:w4.cell? ⟨w.heap.size,7,none⟩=some (c7):=by rw[Lib.cell_of_heap hb4];rfl
  have f8:w4.cell? ⟨w.heap.size,8,none⟩=some (.int .i64 rr):=by rw[Lib.cell_of_heap hb4];rfl
  have f9:w4.cell? ⟨w.heap.size,9,none⟩=some (c9):=by rw[Lib.cell_of_heap hb4];rfl
  have f10:w4.cell? ⟨w.heap.size,10,none⟩=some (c10):=by rw[Lib.cell_of_heap hb4];rfl
  have f11:w4.cell? ⟨w.heap.size,11,none⟩=some (.int .i64 ld):=by rw[Lib.cell_of_heap hb4];rfl
  have f12:w4.cell? ⟨w.heap.size,12,none⟩=some (c12):=by rw[Lib.cell_of_heap hb4];rfl
  have f13:w4.cell? ⟨w.heap.size,13,none⟩=some (c13):=by rw[Lib.cell_of_heap hb4];rfl
  have f14:w4.cell? ⟨w.heap.size,14,none⟩=some (.int .u8 cl):=by rw[Lib.cell_of_heap hb4];rfl
  obtain⟨LL,hLL⟩:∃LL,Hid (LL=hdL sCake++dvT cn pn wn ln un dn U Dv sn vn S Wq):=⟨_,rfl⟩;have hlL:Hid (LL.length<=400000000):=by
   show _<=_;rw[show LL=_ from hLL,AG];have h1:=hF2.len;have h2:(hdL sCake).length<=100:=by decide
   omega
  have hct:=cake_F h4 hW2 hb2 hb3 hF2 (.int .u8 1) (.int .u8 pc) c5 c6 c7 (.int .i64 rr) c9 c10 (.int .i64 ld) c12 c13 (.int .u8 cl) (by decide);rw[<-show LL=_ from hLL]at hct;have hbx:Hid (∀v L,WrI w2 b L v->v.cell? ⟨w.heap.size,14,none⟩=some (.int .u8 cl)∧v.cell? ⟨w.heap.size,3,none⟩=some (.int .u8 pc)):=fun v L hv=>by
   rw[Lib.cell_of_heap (hbox2 v hv.bel),Lib.cell_of_heap (hbox2 v hv.bel)];exact⟨rfl,rfl⟩
  clear hb4 hF2 hbox hb1 hFh hI0 h4 hbox2
  go_wp2_with (first|(go_at_call 54;refine hct.mono ?_))
  rintro e w6 ⟨rfl,h6⟩;clear hct f0 f1 f2 f3 f4 f5 f6 f7 f8 f9 f10 f11 f12 f13 f14;have i1:∀j:Nat,iR ((fun _:Nat=>cl+pc) j)=true:=fun j=>iR_iff.2 ⟨by dsimp only;omega,by dsimp only;omega⟩;have i2:Hid (∀j,j<1->(#[Value.int .i64 (cl+pc)]:Array Value)[j]? =some (.int .i64 ((fun _:Nat=>cl+pc) j))):=fun j hj=>by
   have:j=0:=by omega
   subst this;rfl
  have i3':LL.length+sClaims.size+1*22<=1000000000000:=by
   have h1:LL.length<=400000000:=hlL;have h3:sClaims.size=6:=rfl;omega
  have hT2:Hid (LL++by_ sClaims++nuL (fun _=>cl+pc) 1++[10]=caT cn pn wn ln un dn U Dv sn vn S Wq (cl+pc)):=by
   show _=_;rw[show LL=_ from hLL,caT];simp only[clL,List.append_assoc]
  have f0:Hid (b<w2.heap.size):=hb3;clear hb3;obtain⟨f14,f3⟩:=(show∀v L,WrI w2 b L v->v.cell? ⟨w.heap.size,14,none⟩=some (.int .u8 cl)∧v.cell? ⟨w.heap.size,3,none⟩=some (.int .u8 pc)from hbx) w6 _ h6;have i4:w6.heap.size≠b:=by have:=h6.bel.size;have h:b<w2.heap.size:=f0;omega
  have h6a:=h6.alloc hb2 (.cells #[.int .i64 (cl+pc)] 3);have h6n:Hid ((w6.alloc (.cells #[.int .i64 (cl+pc)] 3)).heap[w6.heap.size]? =some (.cells #[.int .i64 (cl+pc)] 3 (0,0))):=alloc_new w6 _
  go_wp2_with (first|(go_at_call 55;refine(ints_new h6a hW2 hb2 sClaims w6.heap.size 1 1 (fun _=>cl+pc) #[.int .i64 (cl+pc)] (0,0) i1 i4 h6n i2 i3').mono ?_))
  rintro e w7 ⟨rfl,h7⟩;obtain⟨T,hT⟩:∃T,T=LL++by_ sClaims++nuL (fun _=>cl+pc) 1++[10]:=⟨_,rfl⟩;rw[<-hT]at h7;have hT3:Hid (caT cn pn wn ln un dn U Dv sn vn S Wq (cl+pc)=T):=by
   show _=_;rw[hT];exact(show LL++by_ sClaims++nuL (fun _=>cl+pc) 1++[10]=caT cn pn wn ln un dn U Dv sn vn S Wq (cl+pc)from hT2).symm
  have hne:T≠[]:=by rw[hT];simp
  have hbz:Below w.heap.size w w7:=hbv w7 h7.bel;clear hT hT2 f14 f3 h6 h6a h6n i1 i2 i3' i4 hbx
  go_wp2_with (first|(go_at_call 56;refine(wr_len b b T _ h7.bld).mono ?_))
  rintro e w8 ⟨rfl,rfl⟩;have hfin:Hid (∀v,Below b w8 v->Below w.heap.size w v):=fun v hv=>hbz.trans (hv.mono (by omega));by_cases hbig:60000<T.length
  ·have hdb:decide (60000<T.length)=true:=A4 hbig;have hd2:Hid (decide (60000<T.length)=true):=hdb;clear hdb
   go_wp2
   go_ret2
   rw[show caT cn pn wn ln un dn U Dv sn vn S Wq (cl+pc)=T from hT3];unfold txS txE;rw[show decide (60000<T.length)=true from hd2];exact⟨rfl,hbz⟩
  ·have hd2:Hid (decide (60000<T.length)=false):=AB hbig
   go_wp2_with (first|(go_at_call 57;refine(wr_text b b T _ h7.bld hne).mono ?_))
   rintro e w9 ⟨rfl,h9⟩
   go_wp2
   go_ret2
   rw[show caT cn pn wn ln un dn U Dv sn vn S Wq (cl+pc)=T from hT3];unfold txS txE;rw[show decide (60000<T.length)=false from hd2];exact⟨rfl,(show∀v,Below b w8 v->Below w.heap.size w v from hfin) w9 h9⟩
theorem idx_rent(v:World):(Instr.index 122 (.agg #[.string sCake,.string sGoods,.string sRent,.string sSettle]) (.int .u8 (IntKind.u8.wrap 2))).run Tryz.prog v=.ok (.string sRent) v:=by kernel_rfl
def sRooms:ByteArray:=⟨⟨[114,111,111,109,115]⟩⟩
def sPrices:ByteArray:=⟨⟨[112,114,105,99,101,115]⟩⟩
structure RentF(w2:World)(b:Nat)(ga ra qa:Option Addr)(gn gc gb goff rn rc rb ro qn qc qb qo:Nat)(xa:Nat->Option Addr)(xb xo xn xc:Nat->Nat)(X:Nat->Nat->Int)(R Q:Nat->Int)(rr ld:Int):Prop where
 hga:0<gn->ga=some ⟨gb,goff,none⟩∧gb<b
 hg:∀e,e<gn->w2.cell? ⟨gb,goff+e,none⟩=some (.slice (xa e) (xn e) (xc e))
 hx:∀e,e<gn->xn e<=1000∧(0<xn e->xa e=some ⟨xb e,xo e,none⟩∧xb e<b)∧∀j,j<xn e->w2.cell? ⟨xb e,xo e+j,none⟩=some (.int .i64 (X e j))
 hra:0<rn->ra=some ⟨rb,ro,none⟩∧rb<b
 hr:∀j,j<rn->w2.cell? ⟨rb,ro+j,none⟩=some (.int .i64 (R j))
 hqa:qa=some ⟨qb,qo,none⟩∧qb<b∧0<qn
 hq:∀j,j<qn->w2.cell? ⟨qb,qo+j,none⟩=some (.int .i64 (Q j))
 hX:∀e j,iR (X e j)=true
 hR:∀j,iR (R j)=true
 hQ:∀j,iR (Q j)=true
 hrr:iR rr=true
 hld:iR ld=true
 hgn:gn<=1000
 hrn:rn<=1000
 hqn:qn<=1000
theorem RentF.later{w w2:World}{n b:Nat}{ga ra qa:Option Addr}{gn gc gb goff rn rc rb ro qn qc qb qo:Nat}{xa:Nat->Option Addr}{xb xo xn xc:Nat->Nat}{X:Nat->Nat->Int}{R Q:Nat->Int}{rr ld:Int}(h:RentF w n ga ra qa gn gc gb goff rn rc rb ro qn qc qb qo xa xb xo xn xc X R Q rr ld)(hb:Below n w w2)(hn:n<=b):RentF w2 b ga ra qa gn gc gb goff rn rc rb ro qn qc qb qo xa xb xo xn xc X R Q rr ld where
 hga:=fun h0=>⟨(h.hga h0).1,Nat.lt_of_lt_of_le (h.hga h0).2 hn⟩
 hg:=fun e he=>by rw[hb.cell (p:=⟨gb,goff+e,none⟩) (h.hga (by omega)).2];exact h.hg e he
 hx:=fun e he=>by
  obtain⟨a1,a2,a3⟩:=h.hx e he;exact⟨a1,fun h0=>⟨(a2 h0).1,Nat.lt_of_lt_of_le (a2 h0).2 hn⟩,fun j hj=>by rw[hb.cell (p:=⟨xb e,xo e+j,none⟩) (a2 (by omega)).2];exact a3 j hj⟩
 hra:=fun h0=>⟨(h.hra h0).1,Nat.lt_of_lt_of_le (h.hra h0).2 hn⟩
 hr:=fun j hj=>by rw[hb.cell (p:=⟨rb,ro+j,none⟩) (h.hra (by omega)).2];exact h.hr j hj
 hqa:=⟨h.hqa.1,Nat.lt_of_lt_of_le h.hqa.2.1 hn,h.hqa.2.2⟩
 hq:=fun j hj=>by rw[hb.cell (p:=⟨qb,qo+j,none⟩) h.hqa.2.1];exact h.hq j hj
 hX:=h.hX
 hR:=h.hR
 hQ:=h.hQ
 hrr:=h.hrr
 hld:=h.hld
 hgn:=h.hgn
 hrn:=h.hrn
 hqn:=h.hqn
def prF(ld:Int)(Q:Nat->Int)(j:Nat):Int:=if j=0 then ld else Q (j-1)
def reT(rr:Int)(X:Nat->Nat->Int)(xn:Nat->Nat)(gn:Nat)(R:Nat->Int)(rn:Nat)(ld:Int)(Q:Nat->Int)(qn:Nat)(c:Int):List UInt8:=hdL sRent++(by_ sRent++nuL (fun _=>rr) 1++[10])++lnL sValues X xn gn++(by_ sRooms++nuL R rn++[10])++(by_ sPrices++nuL (prF ld Q) (1+qn)++[10])++clL c
theorem prF_iR{ld:Int}{Q:Nat->Int}(h1:iR ld=true)(h2:∀j,iR (Q j)=true)(j:Nat):iR (prF ld Q j)=true:=by
 unfold prF;split
 ·exact h1
 ·exact h2 _
theorem prF_cells{w7:World}{base g cap qn:Nat}{x:Int}{Q:Nat->Int}(hown:w7.ownsRow base 3 1 (.slice (some ⟨g,0,none⟩) (1+qn) cap) (1+qn) ([Value.int .i64 x]++(List.range qn).map (fun i=>Value.int .i64 (Q i)))){b:Nat}(hgb:g≠b):
  ∀w',Below b w7 w'->Lib.OthersKept 5 (some b) w7 w'->∀j,j<1+qn->w'.cell? ⟨g,0+j,none⟩=some (.int .i64 (prF x Q j)):=by
 intro w' h1 h2 j hj;have h3:=crow_cells (w7:=w7) (base:=base) (g:=g) (cap:=cap) (un:=qn) (dn:=0) (x:=x) (U:=Q) (Dv:=Q) (by simpa using hown) hgb w' h1 h2 j (by omega);rw[h3];unfold crF prF;by_cases h0:j=0
 ·rw[AM h0,AM h0]
 ·rw[AL h0,AL h0,AM (by omega)]
set_option maxHeartbeats 4000000 in
set_option maxRecDepth 1000000 in
theorem rentT_walk(w:World)(c1 c2 c4 c5 c6 c12 c13:Value)(pc rr ld cl:Int)(ga ra qa:Option Addr)(gn gc gb goff rn rc rb ro qn qc qb qo:Nat)(xa:Nat->Option Addr)(xb xo xn xc:Nat->Nat)(X:Nat->Nat->Int)(R Q:Nat->Int)(ec:Int)
  (hchk:∀w',Below w.heap.size w w'->Calls Tryz.prog 19 #[.agg #[.int .u8 3,c1,c2,.int .u8 pc,c4,c5,c6,.slice ga gn gc,.int .i64 rr,.slice ra rn rc,.slice qa qn qc,.int .i64 ld,c12,c13,.int .u8 cl]] w' fun e w''=>e=.returned (.int .i64 ec)∧Below w'.heap.size w' w'')
  (hWd:∀w',Below w.heap.size w w'->Wd w') (hF:ec=0->RentF w w.heap.size ga ra qa gn gc gb goff rn rc rb ro qn qc qb qo xa xb xo xn xc X R Q rr ld) (hc:ec=0->0<=pc∧pc<=255∧0<=cl∧cl<=255):
  Calls Tryz.prog 23 #[.agg #[.int .u8 3,c1,c2,.int .u8 pc,c4,c5,c6,.slice ga gn gc,.int .i64 rr,.slice ra rn rc,.slice qa qn qc,.int .i64 ld,c12,c13,.int .u8 cl]] w fun e w'=>e=.returned (.tuple #[.string (txS ec (reT rr X xn gn R rn ld Q qn (cl+pc))),.int .i64 (txE ec (reT rr X xn gn R rn ld Q qn (cl+pc)))])∧Below w.heap.size w w':=by
 have mx:Tryz.prog.follows .mixedOrders=true:=mixed
 go_enter Tryz.func23,Tryz.ntmps23
 go_wp2_with (first|(go_at_call 19;refine(hchk _ ?_).mono ?_))
 ·exact(Below.refl _ w).alloc (AC _) _
 rintro e w1 ⟨rfl,hb1⟩;by_cases hec:ec=0
 rotate_left
 ·have hec2:(ec !=0)=true:=by simpa using hec
  go_wp2
  go_ret2
  unfold txS txE;rw[hec2];exact⟨rfl,((Below.refl _ w).alloc (AC _) _).trans (hb1.mono (by simp))⟩
 ·have hF1:=hF hec;obtain⟨p0,p1,q0,q1⟩:=hc hec;subst hec;clear hF hc
  go_wp2
  have hb0:Below w.heap.size w w1:=((Below.refl _ w).alloc (AC _) _).trans (hb1.mono (Nat.le_of_lt (alloc_lt w _)));have hN:w.heap.size<w1.heap.size:=Nat.lt_of_lt_of_le (alloc_lt w _) hb1.size;have hbox:w1.heap[w.heap.size]? =some (.cells #[.int .u8 3,c1,c2,.int .u8 pc,c4,c5,c6,.slice ga gn gc,.int .i64 rr,.slice ra rn rc,.slice qa qn qc,.int .i64 ld,c12,c13,.int .u8 cl] 60 (0,0)):=by
   rw[hb1.block w.heap.size (alloc_lt w _)];exact alloc_new w _
  obtain⟨w2,hw2⟩:∃w2,w2=w1.alloc (.cells #[.pointer none,.slice none 0 0] 117):=⟨_,rfl⟩;have hI0:WrI w2 w1.heap.size [] w2:=⟨Below.refl _ _,Lib.OthersKept.refl _ _ _,by rw[hw2];exact Lib.IsBuilderF.of (Lib.fresh_isBuilder 117 5 w1)⟩;have hb3:w1.heap.size<w2.heap.size:=by rw[hw2];exact alloc_lt w1 _
  have hb2:w1.heap.size<=w2.heap.size:=by rw[hw2];exact Nat.le_of_lt (alloc_lt w1 _)
  have hbel2:∀k,k<w1.heap.size->w2.heap[k]? =w1.heap[k]? :=fun k hk=>by rw[hw2];exact Below.heap_alloc w1 _ k hk
  have hbox2:∀v,Below w1.heap.size w2 v->v.heap[w.heap.size]? =some (.cells #[.int .u8 3,c1,c2,.int .u8 pc,c4,c5,c6,.slice ga gn gc,.int .i64 rr,.slice ra rn rc,.slice qa qn qc,.int .i64 ld,c12,c13,.int .u8 cl] 60 (0,0)):=fun v hv=>by
   rw[hv.block _ hN,hbel2 _ hN];exact hbox
  have hbv:∀v,Below w1.heap.size w2 v->Below w.heap.size w v:=fun v hv=>hb0.trans (((Below.refl _ w1).alloc (AC _) _).trans (hw2▸hv)|>.mono (by omega));have hW2:∀v,Below w1.heap.size w2 v->Wd v:=fun v hv=>hWd v (hbv v hv);rw[<-hw2];clear hw2 hbel2;generalize hbb:w1.heap.size=b at*
  obtain⟨Cq,hq1,hq2⟩:∃Cq:World->Prop,(∀v,Cq v->WrI w2 b [] v)∧∀v,WrI w2 b [] v->Cq v:=⟨fun v=>WrI w2 b [] v,fun _ h=>h,fun _ h=>h⟩;refine wp_region_quiet_tail (C:=Cq) 10 mx (by kernel_rfl) (hq2 w2.drew hI0.drew) ?_;have hq:Hid (∀v,Cq v->WrI w2 b [] v):=hq1;have hcall:∀v,Cq v->Calls Tryz.prog 53 #[] v fun e w'=>e=.returned (.agg #[.string sCake,.string sGoods,.string sRent,.string sSettle])∧Cq w':=fun v hv=>(kinds_I (hq1 v hv) hb2).mono fun e w' ⟨he,h⟩=>⟨he,hq2 _ h⟩;have hcl:Hid (∀v,Cq v->Calls Tryz.prog 53 #[] v fun e w'=>e=.returned (.agg #[.string sCake,.string sGoods,.string sRent,.string sSettle])∧Cq w'):=hcall;have hld:Hid (∀v,Cq v->v.cell? ⟨w.heap.size,0,none⟩=some (.int .u8 3)):=fun v hv=>by rw[Lib.cell_of_heap (hbox2 v (hq1 v hv).bel)];rfl
  have hFh:Hid (RentF w w.heap.size ga ra qa gn gc gb goff rn rc rb ro qn qc qb qo xa xb xo xn xc X R Q rr ld):=hF1;clear hq1 hq2 hcall hchk hF1;dsimp only[List.take,List.drop];refine wpQuiet_step (fun K hK=>?_)
  go_simp
  refine⟨_,fun v hv=>rfl,hK _ ?_⟩;clear hK K;refine wpQuiet_step (fun K hK=>?_)
  go_simp
  refine⟨_,fun v hv=>rfl,hK _ ?_⟩;clear hK K;refine wpQuiet_step (fun K hK=>?_)
  go_simp
  refine⟨_,fun v hv=>rfl,hK _ ?_⟩;clear hK K;refine wpQuiet_step (fun K hK=>?_)
  go_simp
  refine⟨.agg #[.string sCake,.string sGoods,.string sRent,.string sSettle],fun v hv=>(show∀v,Cq v->Calls Tryz.prog 53 #[] v fun e w'=>e=.returned (.agg #[.string sCake,.string sGoods,.string sRent,.string sSettle])∧Cq w' from hcl) v hv,hK _ ?_⟩;clear hK K;refine wpQuiet_step (fun K hK=>?_)
  go_simp
  refine⟨_,fun v hv=>rfl,hK _ ?_⟩;clear hK K;refine wpQuiet_step (fun K hK=>?_)
  go_simp
  refine⟨.int .u8 3,fun v hv=>?_,hK _ ?_⟩
  ·rw[(show∀v,Cq v->v.cell? ⟨w.heap.size,0,none⟩=some (.int .u8 3)from hld) v hv];exact⟨rfl,rfl⟩
  clear hK K;refine wpQuiet_step (fun K hK=>?_)
  go_simp
  refine⟨_,fun v hv=>rfl,hK _ ?_⟩;clear hK K;refine wpQuiet_step (fun K hK=>?_)
  go_simp
  refine⟨.string sRent,fun v hv=>?_,hK _ ?_⟩
  ·rw[idx_rent v];exact⟨rfl,rfl⟩
  clear hK K;refine wpQuiet_step (fun K hK=>?_)
  go_simp
  refine⟨.string (sDocument++sRent),fun v hv=>?_,hK _ ?_⟩
  ·rw[AL (show¬9223372036854775807<9+sRent.size by have:sRent.size=4:=rfl;omega)];exact⟨rfl,rfl⟩
  clear hK K;refine wpQuiet_step (fun K hK=>?_)
  go_simp
  refine⟨.string (sDocument++sRent++⟨#[10]⟩),fun v hv=>?_,hK _ ?_⟩
  ·rw[AL (show¬9223372036854775807<sDocument.size+sRent.size+1 by have:sRent.size=4:=rfl;have:sDocument.size=9:=rfl;omega)];exact⟨rfl,rfl⟩
  clear hK K;refine wpQuiet_nil ?_;intro w3 h3;have h3':WrI w2 b [] w3:=(show∀v,Cq v->WrI w2 b [] v from hq) w3 h3;have hsz:([]:List UInt8).length+(sDocument++sRent++⟨#[10]⟩).size<=140737488355328:=by decide
  have hS:[]++by_ (sDocument++sRent++⟨#[10]⟩)=hdL sRent:=by rw[by_app,by_app];rfl
  generalize sDocument++sRent++⟨#[10]⟩=Sx at*
  clear hq hcl hld h3
  go_wp2_with (first|(go_at_call 52;refine(write_I h3' hb2 Sx hsz).mono ?_))
  rintro e w4 ⟨rfl,h4⟩;rw[hS]at h4;clear hS hsz h3';have hh2:Hid (∀v,Below b w2 v->v.heap[w.heap.size]? =some (.cells #[.int .u8 3,c1,c2,.int .u8 pc,c4,c5,c6,.slice ga gn gc,.int .i64 rr,.slice ra rn rc,.slice qa qn qc,.int .i64 ld,c12,c13,.int .u8 cl] 60 (0,0))):=hbox2;obtain⟨q1,q2,q3,q4,q5,q6,q7,q8,q9,q10,q11,q12,q13,q14,q15⟩:=(show RentF w w.heap.size ga ra qa gn gc gb goff rn rc rb ro qn qc qb qo xa xb xo xn xc X R Q rr ld from hFh).later (hbv w2 (Below.refl _ _)) (show w.heap.size<=b by omega);have hb4:=hbox2 w4 h4.bel;have g0:w4.cell? ⟨w.heap.size,0,none⟩=some (.int .u8 3):=by rw[Lib.cell_of_heap hb4];rfl
  have g8:w4.cell? ⟨w.heap.size,8,none⟩=some (.int .i64 rr):=by rw[Lib.cell_of_heap hb4];rfl
  have hbx:Hid (∀v L,WrI w2 b L v->v.cell? ⟨w.heap.size,14,none⟩=some (.int .u8 cl)∧v.cell? ⟨w.heap.size,3,none⟩=some (.int .u8 pc)):=fun v L hv=>by
   rw[Lib.cell_of_heap (hbox2 v hv.bel),Lib.cell_of_heap (hbox2 v hv.bel)];exact⟨rfl,rfl⟩
  have hby:Hid (∀v L,WrI w2 b L v->v.cell? ⟨w.heap.size,7,none⟩=some (.slice ga gn gc)∧v.cell? ⟨w.heap.size,9,none⟩=some (.slice ra rn rc)∧v.cell? ⟨w.heap.size,10,none⟩=some (.slice qa qn qc)∧v.cell? ⟨w.heap.size,11,none⟩=some (.int .i64 ld)):=fun v L hv=>by
   rw[Lib.cell_of_heap (hbox2 v hv.bel),Lib.cell_of_heap (hbox2 v hv.bel),Lib.cell_of_heap (hbox2 v hv.bel),Lib.cell_of_heap (hbox2 v hv.bel)];exact⟨rfl,rfl,rfl,rfl⟩
  have q1h:Hid (0<gn->ga=some ⟨gb,goff,none⟩∧gb<b):=q1;have q2h:Hid (∀e,e<gn->w2.cell? ⟨gb,goff+e,none⟩=some (.slice (xa e) (xn e) (xc e))):=q2;have q3h:Hid (∀e,e<gn->xn e<=1000∧(0<xn e->xa e=some ⟨xb e,xo e,none⟩∧xb e<b)∧∀j,j<xn e->w2.cell? ⟨xb e,xo e+j,none⟩=some (.int .i64 (X e j))):=q3;have q4h:Hid (0<rn->ra=some ⟨rb,ro,none⟩∧rb<b):=q4;have q5h:Hid (∀j,j<rn->w2.cell? ⟨rb,ro+j,none⟩=some (.int .i64 (R j))):=q5;have q6h:Hid (qa=some ⟨qb,qo,none⟩∧qb<b∧0<qn):=q6;have q7h:Hid (∀j,j<qn->w2.cell? ⟨qb,qo+j,none⟩=some (.int .i64 (Q j))):=q7;obtain⟨L5,hL5⟩:∃L5,Hid (L5=hdL sRent++by_ sRent++nuL (fun _=>rr) 1++[10]):=⟨hdL sRent++by_ sRent++nuL (fun _=>rr) 1++[10],Eq.refl _⟩;have hl5:Hid (L5.length<=1000):=by
   show _<=_;have h1:=nuL_len (x:=fun _=>rr) (fun _=>q11) 1;have h2:(hdL sRent).length<=100:=by decide
   have h3:(by_ sRent).length=4:=rfl;rw[show L5=_ from hL5,AG,AG,AG,List.length_singleton];omega
  have hone:∀j,j<1->(#[Value.int .i64 rr]:Array Value)[j]? =some (.int .i64 ((fun _:Nat=>rr) j)):=fun j hj=>by
   have:j=0:=by omega
   subst this;rfl
  have hct:=ints_new (h4.alloc hb2 (.cells #[.int .i64 rr] 3)) hW2 hb2 sRent w4.heap.size 1 1 (fun _=>rr) #[.int .i64 rr] (0,0) (fun _=>q11) (by have:=h4.bel.size;omega) (alloc_new w4 _) hone (by decide);rw[<-show L5=_ from hL5]at hct;clear hb4 hbox hb1 hFh hI0 h4 hbox2 hone q1 q2 q3 q4 q5 q6 q7
  go_wp2_with (first|(go_at_call 55;refine hct.mono ?_))
  rintro e w5 ⟨rfl,h5⟩;clear hct g0 g8;obtain⟨g7,-⟩:=(show∀v L,WrI w2 b L v->v.cell? ⟨w.heap.size,7,none⟩=some (.slice ga gn gc)∧v.cell? ⟨w.heap.size,9,none⟩=some (.slice ra rn rc)∧v.cell? ⟨w.heap.size,10,none⟩=some (.slice qa qn qc)∧v.cell? ⟨w.heap.size,11,none⟩=some (.int .i64 ld)from hby) w5 _ h5;have h5h:Hid (WrI w2 b L5 w5):=h5;clear h5
  go_wp2
  clear g7;have hT:Hid (∀k,k<=gn->(L5++lnL sValues X xn k).length<=40000000):=fun k hk=>by
   have h1:=lnL_len (word:=sValues) (by decide) q8 k (fun e he=>((show∀e,e<gn->xn e<=1000∧(0<xn e->xa e=some ⟨xb e,xo e,none⟩∧xb e<b)∧∀j,j<xn e->w2.cell? ⟨xb e,xo e+j,none⟩=some (.int .i64 (X e j))from q3h) e (by omega)).1);have h2:L5.length<=1000:=hl5;have h3:k*30000<=1000*30000:=AH _ (by omega);rw[AG];omega
  go_loopw [67] (fun i wr=>∃k:Nat,i=.int .i64 k∧k<=gn∧WrI w2 b (L5++lnL sValues X xn k) wr) (fun i _=>gn-(RowKit.intOf i).toNat)
  case atStart=>
   refine⟨0,rfl,Nat.zero_le _,?_⟩;rw[show L5++lnL sValues X xn 0=L5 from List.append_nil _];exact h5h
  case round=>
   obtain⟨k,rfl,hk,h6⟩:=hrel;by_cases hp:k<gn
   ·obtain⟨ha',hgb'⟩:=(show 0<gn->ga=some ⟨gb,goff,none⟩∧gb<b from q1h) (by omega);subst ha';have d0:=(show∀e,e<gn->w2.cell? ⟨gb,goff+e,none⟩=some (.slice (xa e) (xn e) (xc e))from q2h) k hp;rw[<-h6.bel.cell (p:=⟨gb,goff+k,none⟩) hgb']at d0;obtain⟨u1,u2,u3⟩:=(show∀e,e<gn->xn e<=1000∧(0<xn e->xa e=some ⟨xb e,xo e,none⟩∧xb e<b)∧∀j,j<xn e->w2.cell? ⟨xb e,xo e+j,none⟩=some (.int .i64 (X e j))from q3h) k hp;have hct:=ints_old h6 hW2 hb2 sValues (xa k) (xb k) (xo k) (xn k) (xc k) (X k) (fun h=>(u2 h).1) (q8 k) (fun h=>(u2 h).2) u3 (by
     have h1:=(show∀k,k<=gn->(L5++lnL sValues X xn k).length<=40000000 from hT) k (by omega);have h3:sValues.size=6:=rfl;omega)
    have hct2:Calls Tryz.prog 55 #[.pointer (some ⟨b,0,none⟩),.string sValues,.slice (xa k) (xn k) (xc k)] wr fun e w'=>e=.returned (.tuple #[])∧WrI w2 b (L5++lnL sValues X xn (k+1)) w':=hct.mono fun e w' ⟨h1,h2⟩=>⟨h1,by
     rw[show L5++lnL sValues X xn (k+1)=L5++lnL sValues X xn k++by_ sValues++nuL (X k) (xn k)++[10] by rw[show lnL sValues X xn (k+1)=lnL sValues X xn k++(by_ sValues++nuL (X k) (xn k)++[10])from rfl];simp only[List.append_assoc]];exact h2⟩
    clear hct u2 u3 h6 hT
    go_wp2_with (first|(go_at_call 55;refine hct2.mono ?_;rintro e w6 ⟨rfl,h6⟩))
    go_roundw
    case rel=>exact⟨k+1,by go_num,by omega,h6⟩
    case measure=>simp[RowKit.intOf];omega
   ·have hkn:k=gn:=by omega
    subst hkn;obtain⟨-,g9,-,-⟩:=(show∀v L,WrI w2 b L v->v.cell? ⟨w.heap.size,7,none⟩=some (.slice ga k gc)∧v.cell? ⟨w.heap.size,9,none⟩=some (.slice ra rn rc)∧v.cell? ⟨w.heap.size,10,none⟩=some (.slice qa qn qc)∧v.cell? ⟨w.heap.size,11,none⟩=some (.int .i64 ld)from hby) wr _ h6;obtain⟨L7,hL7⟩:∃L7,Hid (L7=L5++lnL sValues X xn k++by_ sRooms++nuL R rn++[10]):=⟨L5++lnL sValues X xn k++by_ sRooms++nuL R rn++[10],Eq.refl _⟩;have hl6:=(show∀j,j<=k->(L5++lnL sValues X xn j).length<=40000000 from hT) k (AC _);have hl7:Hid (L7.length<=50000000):=by
     show _<=_;have h1:=nuL_len q9 rn;have h3:(by_ sRooms).length=5:=rfl;rw[show L7=_ from hL7,AG,AG,AG,List.length_singleton];omega
    have hct:=ints_old h6 hW2 hb2 sRooms ra rb ro rn rc R (fun h=>((show 0<rn->ra=some ⟨rb,ro,none⟩∧rb<b from q4h) h).1) q9 (fun h=>((show 0<rn->ra=some ⟨rb,ro,none⟩∧rb<b from q4h) h).2) q5h (by
     have h3:sRooms.size=5:=rfl;omega)
    rw[<-show L7=_ from hL7]at hct;clear h6 hT hl6
    go_wp2_with (first|(go_at_call 55;refine hct.mono ?_))
    rintro e w7 ⟨rfl,h7⟩;clear hct g9;obtain⟨-,-,g10,g11⟩:=(show∀v L,WrI w2 b L v->v.cell? ⟨w.heap.size,7,none⟩=some (.slice ga k gc)∧v.cell? ⟨w.heap.size,9,none⟩=some (.slice ra rn rc)∧v.cell? ⟨w.heap.size,10,none⟩=some (.slice qa qn qc)∧v.cell? ⟨w.heap.size,11,none⟩=some (.int .i64 ld)from hby) w7 _ h7;obtain⟨t1,t2,t3⟩:=(show qa=some ⟨qb,qo,none⟩∧qb<b∧0<qn from q6h);subst t1;obtain⟨i0,hi,hz0,hz1,hz2⟩:=info_parts infoI;have hbz:b<w7.heap.size:=by have:=h7.bel.size;omega
    have hnu:Hid (∀v,Below b w2 v->∀j u,((List.range qn).map (fun i=>Value.int .i64 (Q i)))[j]? =some u->v.cell? ((⟨qb,qo,none⟩:Addr).add j)=some u):=fun v hv=>news_ok hv t2 q7h;obtain⟨s5,hs5⟩:∃s5,s5=w7.heap.size:=⟨_,rfl⟩;have hs5h:Hid (s5=w7.heap.size):=hs5;have h7h:Hid (WrI w2 b L7 w7):=h7;have hbw:Hid (Below b w2 w7):=h7.bel;have hN5:w.heap.size<s5:=by omega
    have hb5:b<s5:=by omega
    have hbz:b<=s5:=by omega
    have hhx:Hid (∀v,Below b w2 v->v.cell? ⟨w.heap.size,10,none⟩=some (.slice (some ⟨qb,qo,none⟩) qn qc)∧v.cell? ⟨w.heap.size,11,none⟩=some (.int .i64 ld)):=fun v hv=>by
     have hh3:=(show∀v,Below b w2 v->v.heap[w.heap.size]? =some (.cells #[.int .u8 3,c1,c2,.int .u8 pc,c4,c5,c6,.slice ga k gc,.int .i64 rr,.slice ra rn rc,.slice (some ⟨qb,qo,none⟩) qn qc,.int .i64 ld,c12,c13,.int .u8 cl] 60 (0,0))from hh2) v hv;rw[Lib.cell_of_heap hh3,Lib.cell_of_heap hh3];exact⟨rfl,rfl⟩
    have hq2:1+qn<=100000:=by omega
    have g10':=((show∀v,Below b w2 v->v.cell? ⟨w.heap.size,10,none⟩=some (.slice (some ⟨qb,qo,none⟩) qn qc)∧v.cell? ⟨w.heap.size,11,none⟩=some (.int .i64 ld)from hhx) (w7.alloc (.cells #[.int .i64 ld] 3)) (h7.bel.alloc (by omega) _)).1;clear h7 hs5 g10
    go_wp2_with (at_builtin;refine wpList_append_lies _ (by rfl) _ _ 35 (by rfl) w7.heap.size 3 i0 _ 1 8 Tryz.underlying35 hi hz0 hz1 hz2 rfl (by omega) (.slice (some ⟨w7.heap.size,0,none⟩) 1 1) 1 [.int .i64 ld] (by rfl) (own_lit w7 ld w7.heap.size rfl) ⟨qb,qo,none⟩ qn qc ((List.range qn).map (fun i=>Value.int .i64 (Q i))) (by rfl) (by simp) ((show∀v,Below b w2 v->∀j u,((List.range qn).map (fun i=>Value.int .i64 (Q i)))[j]? =some u->v.cell? ((⟨qb,qo,none⟩:Addr).add j)=some u from hnu) _ ((show Below b w2 w7 from hbw).alloc (by omega) _)) (one_ints _ _) t3 (by unfold maxLen;omega) (by omega) (by simp) (w7.heap.size+1) (by simp) ?_;intro g6 cap6 w8 hown6 hgrow hat6 hlt6)
    have hb8:Below w7.heap.size w7 w8:=((Below.refl w7.heap.size w7).alloc (AC _) _).grown hgrow (by simp) (fun j hj=>by cases hj;exact AC _);have hg8:g6≠b:=by
     rcases hat6 with e|e
     ·have e:w7.heap.size=g6:=Option.some.inj e;omega
     ·omega
    have h8:WrI w2 b L7 w8:=(show WrI w2 b L7 w7 from h7h).step hb2 (hb8.mono (by omega));obtain⟨LL,hLL⟩:∃LL,Hid (LL=L7++by_ sPrices++nuL (prF ld Q) (1+qn)++[10]):=⟨L7++by_ sPrices++nuL (prF ld Q) (1+qn)++[10],Eq.refl _⟩;have hlL:Hid (LL.length<=400000000):=by
     show _<=_;have h1:=nuL_len (prF_iR q12 q10) (1+qn);have h2:L7.length<=50000000:=hl7;have h3:(by_ sPrices).length=6:=rfl;rw[show LL=_ from hLL,AG,AG,AG,List.length_singleton];omega
    have hct:=ints_G h8 hW2 hb2 sPrices (some ⟨g6,0,none⟩) g6 0 (1+qn) cap6 (prF ld Q) (fun _=>rfl) (prF_iR q12 q10) (prF_cells hown6 hg8) (by
     have h2:L7.length<=50000000:=hl7;have h3:sPrices.size=6:=rfl;omega)
    rw[<-show LL=_ from hLL]at hct;clear h8 hown6 hgrow hat6 hlt6 h7h hb8 hg8 g10' g11
    go_wp2_with (first|(go_at_call 55;refine hct.mono ?_))
    rintro e wx ⟨rfl,hx,-⟩;clear hct;have i1:∀j:Nat,iR ((fun _:Nat=>cl+pc) j)=true:=fun j=>iR_iff.2 ⟨by dsimp only;omega,by dsimp only;omega⟩;have i2:Hid (∀j,j<1->(#[Value.int .i64 (cl+pc)]:Array Value)[j]? =some (.int .i64 ((fun _:Nat=>cl+pc) j))):=fun j hj=>by
     have:j=0:=by omega
     subst this;rfl
    have i3':LL.length+sClaims.size+1*22<=1000000000000:=by
     have h1:LL.length<=400000000:=hlL;have h3:sClaims.size=6:=rfl;omega
    have hT2:Hid (LL++by_ sClaims++nuL (fun _=>cl+pc) 1++[10]=reT rr X xn k R rn ld Q qn (cl+pc)):=by
     show _=_;rw[show LL=_ from hLL,show L7=_ from hL7,show L5=_ from hL5,reT];simp only[clL,List.append_assoc]
    have f0:Hid (b<w2.heap.size):=hb3;clear hb3;obtain⟨f14,f3⟩:=(show∀v L,WrI w2 b L v->v.cell? ⟨w.heap.size,14,none⟩=some (.int .u8 cl)∧v.cell? ⟨w.heap.size,3,none⟩=some (.int .u8 pc)from hbx) wx _ hx;have i4:wx.heap.size≠b:=by have:=hx.bel.size;have h:b<w2.heap.size:=f0;omega
    have hxa:=hx.alloc hb2 (.cells #[.int .i64 (cl+pc)] 3);have hxn:Hid ((wx.alloc (.cells #[.int .i64 (cl+pc)] 3)).heap[wx.heap.size]? =some (.cells #[.int .i64 (cl+pc)] 3 (0,0))):=alloc_new wx _
    go_wp2_with (first|(go_at_call 55;refine(ints_new hxa hW2 hb2 sClaims wx.heap.size 1 1 (fun _=>cl+pc) #[.int .i64 (cl+pc)] (0,0) i1 i4 hxn i2 i3').mono ?_))
    rintro e wz ⟨rfl,hz⟩;obtain⟨T,hT⟩:∃T,T=LL++by_ sClaims++nuL (fun _=>cl+pc) 1++[10]:=⟨_,rfl⟩;rw[<-hT]at hz;have hT3:Hid (reT rr X xn k R rn ld Q qn (cl+pc)=T):=by
     show _=_;rw[hT];exact(show LL++by_ sClaims++nuL (fun _=>cl+pc) 1++[10]=reT rr X xn k R rn ld Q qn (cl+pc)from hT2).symm
    have hne:T≠[]:=by rw[hT];simp
    have hbz:Below w.heap.size w wz:=hbv wz hz.bel;clear hT hT2 f14 f3 hx hxa hxn i1 i2 i3' i4 hbx
    go_wp2_with (first|(go_at_call 56;refine(wr_len b b T _ hz.bld).mono ?_))
    rintro e wy ⟨rfl,rfl⟩;have hfin:Hid (∀v,Below b wy v->Below w.heap.size w v):=fun v hv=>hbz.trans (hv.mono (by omega));by_cases hbig:60000<T.length
    ·have hdb:decide (60000<T.length)=true:=A4 hbig;have hd2:Hid (decide (60000<T.length)=true):=hdb;clear hdb
     go_wp2
     go_ret2
     rw[show reT rr X xn k R rn ld Q qn (cl+pc)=T from hT3];unfold txS txE;rw[show decide (60000<T.length)=true from hd2];exact⟨rfl,hbz⟩
    ·have hd2:Hid (decide (60000<T.length)=false):=AB hbig
     go_wp2_with (first|(go_at_call 57;refine(wr_text b b T _ hz.bld hne).mono ?_))
     rintro e w9 ⟨rfl,h9⟩
     go_wp2
     go_ret2
     rw[show reT rr X xn k R rn ld Q qn (cl+pc)=T from hT3];unfold txS txE;rw[show decide (60000<T.length)=false from hd2];exact⟨rfl,(show∀v,Below b wy v->Below w.heap.size w v from hfin) w9 h9⟩
end Go.Proofs.YtkcnkimndhgkgaaGreatDoor

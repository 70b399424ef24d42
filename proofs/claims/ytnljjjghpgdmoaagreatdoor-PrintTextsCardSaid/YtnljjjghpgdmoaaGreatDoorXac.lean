/- A part of the proof of PrintTexts. No conditions. -/
import Derived.Test.YtnljjjghpgdmoaaGreatDoorXab
import Derived.Deep.Upon
set_option linter.all false
namespace Go.Ev
open Go.RowKit
section
variable{P:Program}{mem mem':M_}{ρ ρ':Map}{B:Nat}{w w':World}
def RX(hm:MemR mem ρ B w){ks:List CK}{x cx:Value}{r2:Row}(h:Sj mem ks x=some r2)(hx:V ρ mem.length x cx){xt:TypeId}(hsk:Ox P xt x=true):
  ∃v:Nat->Nat->Value,Src P ks.length xt cx r2.n (Ai ks.length r2.n v) w∧∀(e j:Nat)(k:CK),e<r2.n->ks[j]? =some k->CellR (okB mem ρ w) w k r2 e j (v e j):=by
 have hsl:∀{a:Option Addr}{n c:Nat},x=.slice a n c->∃el2,P.underlying xt=some (.slice el2):=by
  intro a n c hx;subst hx;unfold Ox at hsk;split at hsk
  ·rename_i el _ _ _ h1 _;exact⟨el,h1⟩
  ·rename_i h2;cases h2
  ·cases hsk
 have main:∀{el2:TypeId}(hxt:P.underlying xt=some (.slice el2)){id e len:Nat}{b:Blk}{r:Row}(hb:mem[id]? =some (some b))(hsh:∀L,ρ id=some L->L.n=r.n∧L.sz=ks.length∧(0<r.n->Rds (okB mem ρ w) w ks r L.b L.off))(hx:V ρ mem.length (.slice (some ⟨id,e,some 0⟩) len 0) cx),
   ∃v:Nat->Nat->Value,Src P ks.length xt cx (w_ r e len).n (Ai ks.length (w_ r e len).n v) w∧∀(e' j:Nat)(k:CK),e'<(w_ r e len).n->ks[j]? =some k->CellR (okB mem ρ w) w k (w_ r e len) e' j (v e' j):=by
  intro el2 hxt id e len b r hb hsh hx;cases hx with
  |sliceDead g1 g2=>exact absurd g2 (BX hm hb)
  |@slice _ _ _ L a cap g1 g2 g3 g4 g5 g6=>
   obtain⟨s1,s2,s3⟩:=hsh L g2;rw[wn_];rcases Nat.eq_zero_or_pos len with h0|h0
   ·subst h0;refine⟨fun _ _=>undef,?_,fun e j k he=>by simp at he⟩;have hnil:Ai ks.length 0 (fun _ _=>undef)=[]:=by simp[Ai]
    rw[hnil];cases a with
    |none=>exact Src.ofNil (P:=P) w hxt cap
    |some a=>exact Src.ofSlice (P:=P) w hxt a 0 cap [] y_ (fun j u hu=>by simp at hu) (fun u hu=>by simp at hu)
   ·have hR:=(s3 o_).winOf (e0:=e) (n:=len) o_;obtain⟨v,v1,v2,v3⟩:=hR.src;rw[wn_]at v1 v2 v3;refine⟨v,?_,v1⟩;rw[g5 h0];refine Src.ofSlice (P:=P) w hxt _ len cap _ Am (fun j u hu=>?_) v3;have:=v2 j u hu;rw[<-s2]at this;simp only[Loc.adr,Addr.add_lit];simpa using this
 unfold Sj at h;split at h
 ·rename_i s;split at h
  ·rename_i hk;cases CS hk;cases h;cases hx;have hxt:P.underlying xt=some .string:=by
    unfold Ox at hsk;split at hsk
    ·rename_i h2;cases h2
    ·rename_i h1 _;exact h1
    ·cases hsk
   have hlen:(bytesRow s).n=s.size:=rfl;have e:Ai 1 s.size (fun e _=>Value.int .u8 ((bytesRow s).I e 0))=byteCells s:=by
    refine List.ext_getElem? fun i=>?_;rcases Nat.lt_or_ge i s.size with hi|hi
    ·have hi':i<s.data.size:=hi;simp[Ai,byteCells,bytesRow,Row.I,hi,Nat.div_one,Array.getD_eq_getD_getElem?]
    ·rw[List.getElem?_eq_none (by rw[Am];omega),List.getElem?_eq_none (by rw[byteCells_length];exact hi)]
   refine⟨fun e _=>.int .u8 ((bytesRow s).I e 0),?_,fun e j k he hk=>?_⟩
   ·show Src P 1 xt (.string s) s.size _ w;show Src P 1 xt (.string s) s.size (Ai 1 s.size _) w;rw[e];exact Src.ofString w hxt s
   ·match j,hk with
    |0,hk=>
     cases hk;exact .int
  ·cases h
 ·cases h;obtain⟨el2,hxt⟩:=hsl rfl;cases hx;rename_i a;refine⟨fun _ _=>undef,?_,fun e j k he=>by simp[Row.n]at he⟩;cases a with
  |none=>simpa [Ai,Row.n]using Src.ofNil (P:=P) w hxt 0
  |some a=>simpa [Ai,Row.n]using Src.ofSlice (P:=P) w (size:=ks.length) hxt a 0 0 [] y_ (fun j u hu=>by simp at hu) (fun u hu=>by simp at hu)
 ·rename_i id e len;obtain⟨el2,hxt⟩:=hsl rfl;split at h
  ·rename_i ks2 o r2' hb;split at h
   ·rename_i hk;cases CS hk;cases h;refine main hxt hb (fun L hL=>?_) hx;obtain⟨M,hM,hbr⟩:=hm.blk _ _ hb;rw[hL]at hM;cases hM;exact⟨hbr.1,hbr.2.1,fun hn=>(hbr.2.2.2.1 hn).2⟩
   ·cases h
  ·rename_i b hnb hb;split at h
   ·rename_i ks2 r2' hd;split at h
    ·rename_i hk;rw[A2]at hk;cases CS hk.1;cases h;refine main hxt hb (fun L hL=>?_) hx;obtain⟨q1,q2,q3⟩:=BlkR.dat hm hb hL hd;exact⟨q1,q2,fun hn=>(q3 hn).2.plain hk.2⟩
    ·cases h
   ·cases h
  ·cases h
 ·cases h
def Nj(hm:MemR mem ρ B w)(hB:B<=w.heap.size){st xt ty el:TypeId}{ei:TypeInfo}{z:Value}(ht:P.underlying st=some (.slice el))(hi:P.info? el=some ei)(hz:ei.zero=some z){ks:List CK}(hsz:ei.size=ks.length)
  (hzo:BR ks (Bc z)=true) (hbytes:ei.bytes<=1000) {base:Option Addr} {n cap:Nat} {r1 r2:Row} {v1 v2:Nat->Nat->Value} (hr1:r1.n=n) (hold:(Builtin.firstCells ei.size n (.slice base n cap)).run P w.drew=.ok (Ai ks.length n v1).toArray w.drew)
  (h1:∀(e j:Nat)(k:CK),e<n->ks[j]? =some k->CellR (okB mem ρ w) w k r1 e j (v1 e j)) {cx:Value} (hs:Src P ks.length xt cx r2.n (Ai ks.length r2.n v2) w) (h2:∀(e j:Nat)(k:CK),e<r2.n->ks[j]? =some k->CellR (okB mem ρ w) w k r2 e j (v2 e j))
  (hg:cap<n+r2.n) (hbound:n+r2.n<=10000000000):
  ∃L cv w',(Builtin.append_ #[st,xt] ty #[.slice base n cap,cx]).run P w=.ok cv w'∧MemR (mem++[some (.row ks true (r1.app r2))]) (Map.snoc ρ mem.length L) B w'∧(∀N,mem.length<N->V (Map.snoc ρ mem.length L) N (sl0 (n+r2.n) mem.length) cv)∧
   ∀W0:World,W0.heap.size<=w.heap.size->Below W0.heap.size W0 w->Below W0.heap.size W0 w':=by
 have hcap:=nextslicecap_le hg;have hrun:=run_append_grow_src (P:=P) w st xt ty el ei z ht hi hz base n cap _ hold cx r2.n _ (by rw[hsz];exact hs) hg o_ (by
  have:Builtin.nextslicecap (n+r2.n) cap*ei.bytes<=(2*(n+r2.n))*1000:=Nat.mul_le_mul hcap hbytes;omega)
 obtain⟨z1,z2⟩:=DC hzo;have hzs:z.cells.size=ks.length:=by rw[<-z1,<-Bi];simp
 have hge:=grownCap_ge w (n+r2.n) cap el;refine⟨⟨w.heap.size,0,ks.length,grownCap w (n+r2.n) cap el,n+r2.n,true,s0⟩,_,_,hrun,?_,fun N hN=>V.newRow hN hge (AC _),fun W0 hW hb=>(hb.drew).alloc (by simpa using hW) _⟩;have happ:(r1.app r2).n=n+r2.n:=by show r1.n+r2.n=n+r2.n;rw[hr1]
 have key:=MemR.newRow hm hB (r:=r1.app r2) (c:=(Ai ks.length n v1++Ai ks.length r2.n v2).toArray++Builtin.zeroCells z.cells (grownCap w (n+r2.n) cap el-(n+r2.n))) (T:=el) (tot:=grownCap w (n+r2.n) cap el) (ks:=ks) (w1:=w.drew) ((Below.refl _ _).drew) rfl
  (by
   simp only[Array.size_append,List.size_toArray,AG,Am,Builtin.zeroCells,Array.size_map,Array.size_range,hzs];rw[Nat.sub_mul,<-Nat.add_mul];have:(n+r2.n)*ks.length<=grownCap w (n+r2.n) cap el*ks.length:=AH _ hge;omega) (by rw[happ];exact hge) (fun e j=>if e<n then v1 e j else v2 (e-n) j) (fun e j k he hk=>?_) (fun e j k he hk=>?_)
 ·rw[happ]at key;exact key
 ·have hj:j<ks.length:=(A0.1 hk).1;rw[happ]at he;rw[Array.getElem?_append];by_cases hen:e<n
  ·have hlt:e*ks.length+j<n*ks.length:=by
    have:(e+1)*ks.length<=n*ks.length:=AH _ o_;rw[Nat.add_mul]at this;omega
   rw[AM (by simp[Am];omega),AM hen];simp only[List.getElem?_toArray];rw[AQ (by rw[Am];exact hlt)];exact CV hen hj
  ·have hlt:e*ks.length+j<(n+r2.n)*ks.length:=by
    have:(e+1)*ks.length<=(n+r2.n)*ks.length:=AH _ o_;rw[Nat.add_mul,Nat.one_mul]at this;omega
   have hge2:n*ks.length<=e*ks.length:=AH _ o_;rw[AM (by simp only[List.size_toArray,AG,Am];rw[<-Nat.add_mul];exact hlt),AL hen];simp only[List.getElem?_toArray];rw[List.getElem?_append_right (by rw[Am];omega),Am];rw[show e*ks.length+j-n*ks.length=(e-n)*ks.length+j by rw[Nat.sub_mul];omega];exact CV o_ hj
 ·rw[happ]at he;by_cases hen:e<n
  ·rw[AM hen];exact(h1 e j k hen hk).app_l (by rw[hr1];exact hen)
  ·rw[AL hen];refine CellR.app_r (by rw[hr1];omega) ?_;rw[hr1];exact h2 (e-n) j k o_ hk
def MemR.drop(h:MemR mem ρ B w)(hlen:mem'.length=mem.length)(hD:∀(i:Nat)(b:Blk),mem'[i]? =some (some b)->mem[i]? =some (some b)∧∀p e j ks r,b=.bor p e j ks r->mem'[p]? =mem[p]?):
  ∃ρ',(∀i,Less ρ ρ' i)∧MemR mem' ρ' B w∧(∀b,okB mem ρ w b->okB mem' ρ' w b)∧∀(i b:Nat),Az mem' ρ' i b->Az mem ρ i b∧∃blk,mem'[i]? =some (some blk):=by
 have hnew:∀(i:Nat)(b:Blk),mem'[i]? =some (some b)->(match mem'[i]? with|some (some _)=>ρ i|_=>none)=ρ i:=fun i b hi=>by rw[hi]
 have hown:∀(i b:Nat),Az mem' (fun i=>match mem'[i]? with|some (some _)=>ρ i|_=>none) i b->Az mem ρ i b∧∃blk,mem'[i]? =some (some blk):=by
  intro i b ⟨M,blk,g1,g3,g4,g2⟩;have g5:=hnew i blk g3;exact⟨⟨M,blk,g5▸g1,(hD i blk g3).1,g4,g2⟩,blk,g3⟩
 have hless:∀i,Less ρ (fun i=>match mem'[i]? with|some (some _)=>ρ i|_=>none) i:=by
  intro i;show(match mem'[i]? with|some (some _)=>ρ i|_=>none)=ρ i∨(match mem'[i]? with|some (some _)=>ρ i|_=>none)=none∨_
  split
  ·exact .inl rfl
  ·exact .inr (.inl rfl)
 have hok:∀b,okB mem ρ w b->okB mem' (fun i=>match mem'[i]? with|some (some _)=>ρ i|_=>none) w b:=fun b hb=>⟨hb.1,fun i hM=>hb.2 i (hown i b hM).1⟩
 refine⟨_,hless,h.step o_ (fun i _=>hless i) (fun b hb=>⟨hok b hb,rfl⟩) (fun i b hi=>?_) (fun i hi=>?_) (fun i j b hi hj=>h.inj i j b (hown i b hi).1 (hown j b hj).1),hok,hown⟩
 ·obtain⟨g1,g2⟩:=hD i b hi;refine .inl ⟨g1,hnew i b hi,fun _ _ _ _ _=>rfl,fun p e j ks r hbr kps rp hh Lp q1 q2=>?_⟩;have q3:=(g2 p e j ks r hbr).trans q1;exact⟨q3,(hnew p _ q3).trans q2,fun _=>rfl⟩
 ·show(match mem'[i]? with|some (some _)=>ρ i|_=>none)=none
  split
  ·rename_i b hb;exact absurd hb (hi b)
  ·rfl
def MemR.kill(h:MemR mem ρ B w){id:Nat}(hnd:∀ks r hh,mem[id]? ≠some (some (.deep ks r hh))):∃ρ',(∀i,Less ρ ρ' i)∧MemR (mem.set id none) ρ' B w∧(∀b,okB mem ρ w b->okB (mem.set id none) ρ' w b)∧∀(i b:Nat),Az (mem.set id none) ρ' i b->i≠id∧Az mem ρ i b:=by
 obtain⟨ρ',h1,h2,h3,h4⟩:=h.drop (mem':=mem.set id none) y_ (fun i b hi=>by
  rcases Ea hi with⟨g1,g2⟩|⟨_,g2,_⟩
  ·refine⟨g2,fun p e j ks r hb=>?_⟩;subst hb;obtain⟨L,_,hr⟩:=h.blk i _ g2;obtain⟨_,_,_,_,_,Lp,kps,rp,hh,a,q1,_⟩:=hr;rw[List.getElem?_set_ne];rintro rfl;exact hnd _ _ _ q1
  ·cases g2)
 refine⟨ρ',h1,h2,h3,fun i b ho=>?_⟩;obtain⟨g1,blk,g2⟩:=h4 i b ho;refine⟨?_,g1⟩;rintro rfl;rcases Ea g2 with⟨g3,_⟩|⟨_,g3,_⟩
 ·exact g3 rfl
 ·cases g3
def EL{p i:Nat}{b:Blk}(h:(CU p mem)[i]? =some (some b)):mem[i]? =some (some b)∧∀e j ks r,b≠.bor p e j ks r:=by
 unfold CU at h;rw[List.getElem?_map]at h;cases hm:mem[i]? with
 |none=>rw[hm]at h;cases h
 |some o=>
  rw[hm]at h;simp only[Option.map_some,A5]at h;split at h
  ·rename_i q e j ks r;split at h
   ·cases h
   ·rename_i hq;cases h;refine⟨rfl,fun e' j' ks' r' he=>?_⟩;cases he;simp at hq
  ·rename_i hne;subst h;exact⟨rfl,fun e j ks r he=>hne p e j ks r (by rw[he])⟩
def GK{p i:Nat}(h:∀q e j ks r,mem[i]? ≠some (some (.bor q e j ks r))):(CU p mem)[i]? =mem[i]? :=by
 unfold CU;rw[List.getElem?_map];cases hm:mem[i]? with
 |none=>rfl
 |some o=>
  rw[Option.map_some]
  congr 1
  split
  ·rename_i q e j ks r;exact absurd hm (h q e j ks r)
  ·rfl
def MemR.killD(h:MemR mem ρ B w){id:Nat}:∃ρ',(∀i,Less ρ ρ' i)∧MemR (CU id (mem.set id none)) ρ' B w∧(∀b,okB mem ρ w b->okB (CU id (mem.set id none)) ρ' w b)∧∀(i b:Nat),Az (CU id (mem.set id none)) ρ' i b->i≠id∧Az mem ρ i b:=by
 obtain⟨ρ',h1,h2,h3,h4⟩:=h.drop (mem':=CU id (mem.set id none)) (by simp[CU]) (fun i b hi=>by
  obtain⟨g0,g1⟩:=EL hi;rcases Ea g0 with⟨g3,g2⟩|⟨_,g2,_⟩
  ·refine⟨g2,fun p e j ks r hb=>?_⟩;subst hb;obtain⟨L,_,hr⟩:=h.blk i _ g2;obtain⟨_,_,_,_,_,Lp,kps,rp,hh,a,q1,_⟩:=hr;have hne:p≠id:=by rintro rfl;exact g1 _ _ _ _ rfl
   have e1:(mem.set id none)[p]? =mem[p]? :=List.getElem?_set_ne fun e=>hne e.symm;rw[GK (fun q e j ks r hq=>by rw[e1,q1]at hq;cases hq),e1]
  ·cases g2)
 refine⟨ρ',h1,h2,h3,fun i b ho=>?_⟩;obtain⟨g1,blk,g2⟩:=h4 i b ho;refine⟨?_,g1⟩;rintro rfl;obtain⟨g0,_⟩:=EL g2;rcases Ea g0 with⟨g3,_⟩|⟨_,g3,_⟩
 ·exact g3 rfl
 ·cases g3
def SK(hm:MemR mem ρ B w)(hB:B<=w.heap.size){st xt ty el:TypeId}{ei:TypeInfo}{z:Value}(ht:P.underlying st=some (.slice el))(hi:P.info? el=some ei)(hz:ei.zero=some z){ks:List CK}(hsz:ei.size=ks.length)
  (hzo:BR ks (Bc z)=true) (hbytes:ei.bytes<=1000) {s x cs cx:Value} {ido:Option Nat} {r r2:Row} {n:Nat} (hd:XA mem ks s=some (ido,r,n)) (hsrc:Sj mem ks x=some r2) (hxt:Ox P xt x=true) (hbound:n+r2.n<=10000000000)
  (hs:V ρ mem.length s cs) (hx:V ρ mem.length x cx):
  ∃ρ' cv w',(Builtin.append_ #[st,xt] ty #[cs,cx]).run P w=.ok cv w'∧MemR ((match ido with|some i=>mem.set i none|none=>mem)++[some (.row ks true (r.app r2))]) ρ' B w'∧(∀i,i<mem.length->Less ρ ρ' i)∧
   V ρ' (mem.length+1) (sl0 (n+r2.n) mem.length) cv∧∀W0:World,W0.heap.size=B->W0.heap.size<=w.heap.size->Below W0.heap.size W0 w->Below W0.heap.size W0 w':=by
 obtain⟨v2,hSrc,hv2⟩:=RX hm hsrc hx hxt;unfold XA at hd;split at hd
 ·cases hd;cases hs;rename_i a0;simp only[AE]at hbound⊢;rcases Nat.eq_zero_or_pos r2.n with h0|h0
  ·have hrun:=run_append_nothing (P:=P) w st xt ty el ei ht hi a0 0 0 (AC _) cx (by
    rw[hsz];have:Ai ks.length r2.n v2=[]:=by rw[h0];simp[Ai]
    rw[<-this,<-h0];simpa [h0]using hSrc)
   have happ:(Row.nil.app r2).n=0:=by show Row.nil.n+r2.n=0;rw[h0];rfl
   refine⟨Map.snoc ρ mem.length ⟨0,0,ks.length,0,0,true,s0⟩,_,w,hrun,hm.alloc (Below.refl _ _) (fun _=>Loc.fresh rfl fun h=>by simp at h) ⟨happ.symm,rfl,fun _=>⟨rfl,by rw[happ];exact Nat.zero_le _,fun h=>by simp at h⟩,fun h=>o_,rfl⟩,fun i hi=>.inl (Map.snoc_old hi),?_,fun W0 _ _ h=>h⟩;rw[h0];exact .slice (L:=⟨0,0,ks.length,0,0,true,s0⟩) o_ Map.snoc_new y_ (AC _) (fun h=>o_) (fun _=>⟨y_,.inl rfl⟩)
  ·obtain⟨L,cv,w',k1,k2,k3,k4⟩:=Nj (P:=P) (ty:=ty) hm hB ht hi hz hsz hzo hbytes (base:=a0) (n:=0) (cap:=0) (r1:=Row.nil) (v1:=fun _ _=>undef) rfl (by
    have:Ai ks.length 0 (fun _ _=>undef)=[]:=by simp[Ai]
    rw[this];cases a0 with
    |none=>exact run_firstCells_none _ _ _ _ _
    |some a=>exact run_firstCells_some _ _ 0 _ _ _ [] y_ (fun j v hv=>by simp at hv)) (fun e j k he=>o_) hSrc hv2 o_ o_
   simp only[AE]at k3;exact⟨_,cv,w',k1,k2,fun i hi=>.inl (Map.snoc_old hi),k3 _ o_,fun W0 _ h1 h2=>k4 W0 h1 h2⟩
 ·rename_i id e len;split at hd
  ·rename_i ksX r0 hb;split at hd
   ·rename_i hk;cases CS hk;cases hd;obtain⟨L,hL,hbr⟩:=hm.blk _ _ hb;obtain⟨b1,b2,b3,b4,b0⟩:=hbr;obtain⟨b5,b6,b7⟩:=b3 rfl;cases hs with
    |sliceDead g1 g2=>exact absurd g2 (BX hm hb)
    |@slice _ _ _ M a cap g1 g2 g3 g4 g5 g6=>
     rw[hL]at g2;cases g2;obtain⟨g7,g8⟩:=g6 b5;have happ:((w_ r0 e n).app r2).n=n+r2.n:=by show(w_ r0 e n).n+r2.n=_;rw[wn_]
     have hlen:(mem.set id none).length=mem.length:=y_;have hRw:0<n->Rds (okB mem ρ w) w ks (w_ r0 e n) L.b (L.off+e*ks.length):=fun hn=>((b4 o_).2).winOf o_;obtain⟨v1,q1,q2,q3⟩:∃v1:Nat->Nat->Value,(∀(e' j:Nat)(k:CK),e'<n->ks[j]? =some k->CellR (okB mem ρ w) w k (w_ r0 e n) e' j (v1 e' j))∧(∀i u,(Ai ks.length n v1)[i]? =some u->w.cell? ⟨L.b,L.off+e*ks.length+i,none⟩=some u)∧∀u∈Ai ks.length n v1,u.oneCell'=true:=by
      rcases Nat.eq_zero_or_pos n with h0|h0
      ·subst h0;exact⟨fun _ _=>undef,fun _ _ _ h=>o_,fun i u hu=>by simp[Ai]at hu,fun u hu=>by simp[Ai]at hu⟩
      ·obtain⟨v1,q1,q2,q3⟩:=(hRw h0).src;rw[wn_]at q1 q2 q3;exact⟨v1,q1,q2,q3⟩
     by_cases hfit:n+r2.n<=cap
     ·
      let L':Loc:=⟨L.b,L.off+e*L.sz,L.sz,L.tot-e,n+r2.n,true,s0⟩
      have hV:V (fun i=>if i=mem.length then some L' else if i=id then none else ρ i) (mem.length+1) (sl0 (n+r2.n) mem.length) (.slice a (n+r2.n) cap):=by
       refine .slice (L:=L') o_ y_ (by simp[L']) hfit (fun hpos=>?_) (fun _=>⟨by simp only[L',AE];omega,?_⟩)
       ·rcases g8 with g8|g8
        ·omega
        ·rw[g8];simp[Loc.adr,L']
       ·rcases g8 with g8|g8
        ·exact .inl g8
        ·right;rw[g8];simp[Loc.adr,L']
      have hless:∀i,i<mem.length->Less ρ (fun i=>if i=mem.length then some L' else if i=id then none else ρ i) i:=by
       intro i hi;have hne:i≠mem.length:=o_;by_cases hii:i=id
       ·exact .inr (.inl (by simp[hii];omega))
       ·exact .inl (by simp[hne,hii])
      rcases Nat.eq_zero_or_pos r2.n with h0|h0
      ·have hrun:=run_append_nothing (P:=P) w st xt ty el ei ht hi a n cap o_ cx (by
        rw[hsz];have:Ai ks.length r2.n v2=[]:=by rw[h0];simp[Ai]
        rw[<-this,<-h0];simpa [h0]using hSrc)
       have e0:n+r2.n=n:=o_;refine⟨_,_,w,by rw[hrun],hm.replace (L':=L') hb hL rfl (fun h=>by simp only[L']at h;omega) (fun _ _=>rfl) (fun _=>rfl) rfl ?_,hless,by rw[e0];rw[e0]at hV;exact hV,fun W0 _ _ h=>h⟩;refine⟨happ.symm,b2,fun _=>⟨rfl,?_,fun ht=>?_⟩,fun hn=>⟨(fun hf=>by cases hf),?_⟩,rfl⟩
       ·rw[happ];simp only[L'];omega
       ·obtain⟨b8,c,T,b9,b10⟩:=b7 (by simp only[L']at ht;omega);refine⟨b8,c,T,b9,?_⟩;simp only[L'];have:e*L.sz+(L.tot-e)*L.sz=L.tot*L.sz:=by rw[<-Nat.add_mul];congr 1;simp only[L']at ht;omega
        omega
       ·rw[happ]at hn;have hO:Az mem ρ id L.b:=⟨L,_,hL,hb,rfl,.inl ⟨o_,rfl⟩⟩;have hok:∀b,okB mem ρ w b->okB (mem.set id none++[some (.row ks true ((w_ r0 e n).app r2))]) (fun i=>if i=mem.length then some L' else if i=id then none else ρ i) w b:=by
         intro b hb';refine⟨hb'.1,fun i ⟨K,blk,m1,m3,m4,m2⟩=>?_⟩;rcases BN m3 with⟨m5,m6⟩|⟨m5,_⟩
         ·rcases Ea m5 with⟨m7,m8⟩|⟨_,m8,_⟩
          ·have hne:i≠mem.length:=by simp at m6;omega
           simp only[hne,m7,if_false]at m1;exact hb'.2 i ⟨K,blk,m1,m8,m4,m2⟩
          ·cases m8
         ·rw[m5,hlen]at m1;simp at m1;subst m1;exact hb'.2 id ((Loc.foot_s0 rfl m2).2▸hO)
        have hR:=hRw o_;rw[<-b2]at hR;cases hR with
        |mk v p1 p2=>
         rw[wn_]at p1 p2;refine .mk v (fun e' j k he hk=>p1 e' j k (by rw[happ]at he;omega) hk) (fun e' j k he hk=>?_);rw[happ]at he;exact((p2 e' j k o_ hk).app_l (by rw[wn_];omega)).mono fun b hb'=>⟨hok b hb',rfl⟩
      ·have ha:a=some (L.adr e 0):=by
        rcases g8 with g8|g8
        ·omega
        ·exact g8
       obtain⟨b8,c,T,b9,b10⟩:=b7 o_;have htot:e*L.sz+cap*L.sz<=L.tot*L.sz:=by rw[<-Nat.add_mul];exact AH _ g7
       have hcapn:n*L.sz+r2.n*L.sz<=cap*L.sz:=by rw[<-Nat.add_mul];exact AH _ hfit
       have hnl:(Ai ks.length r2.n v2).length=r2.n*L.sz:=by rw[Am,b2]
       have hin:L.off+e*L.sz+n*L.sz+(Ai ks.length r2.n v2).length<=c.size:=by rw[hnl];omega
       have hrun:=run_append_room_src (P:=P) w st xt ty el ei ht hi L.b (L.off+e*L.sz) n cap cx r2.n _ (by rw[hsz];exact hSrc) hfit (fun j hj=>by
         rw[hsz,<-b2];simp[World.cell?,b9];omega) (fun j hj=>by simp[World.frozen?,b9])
       rw[hsz,<-b2]at hrun;obtain⟨c',d1,d2,d3,d4,d5⟩:=CQ (Ai L.sz r2.n v2) (L.off+e*L.sz+n*L.sz) w c b9 (by rw[Am];rw[hnl]at hin;exact hin);refine⟨_,_,_,by rw[ha];exact hrun,hm.replace (L':=L') hb hL rfl (fun _=>o_) d4 (fun h=>o_) d5 ?_,hless,?_,fun W0 hW _ h=>below_setCells h (by rw[hW];exact b8)⟩
       ·refine⟨happ.symm,b2,fun _=>⟨rfl,by rw[happ];simp only[L'];omega,fun ht=>⟨b8,c',T,d1,?_⟩⟩,fun hn=>⟨(fun hf=>by cases hf),?_⟩,rfl⟩
        ·simp only[L'];have:e*L.sz+(L.tot-e)*L.sz=L.tot*L.sz:=by rw[<-Nat.add_mul];congr 1;simp only[L']at ht;omega
         omega
        ·have hO:Az mem ρ id L.b:=⟨L,_,hL,hb,rfl,.inl ⟨o_,rfl⟩⟩;have hok:∀b,okB mem ρ w b->okB (mem.set id none++[some (.row ks true ((w_ r0 e n).app r2))]) (fun i=>if i=mem.length then some L' else if i=id then none else ρ i) (w.setCells L.b (L.off+e*L.sz+n*L.sz) (Ai L.sz r2.n v2)) b∧(w.setCells L.b (L.off+e*L.sz+n*L.sz) (Ai L.sz r2.n v2)).heap[b]? =w.heap[b]? :=by
          intro b hb';refine⟨⟨by rw[d5];exact hb'.1,fun i ⟨K,blk,m1,m3,m4,m2⟩=>?_⟩,d4 b fun e'=>hb'.2 id (e'▸hO)⟩;rcases BN m3 with⟨m5,m6⟩|⟨m5,_⟩
          ·rcases Ea m5 with⟨m7,m8⟩|⟨_,m8,_⟩
           ·have hne:i≠mem.length:=by simp at m6;omega
            simp only[hne,m7,if_false]at m1;exact hb'.2 i ⟨K,blk,m1,m8,m4,m2⟩
           ·cases m8
          ·rw[m5,hlen]at m1;simp at m1;subst m1;exact hb'.2 id ((Loc.foot_s0 rfl m2).2▸hO)
         simp only[L'];refine .mk (fun e' j=>if e'<n then v1 e' j else v2 (e'-n) j) (fun e' j k he hk=>?_) (fun e' j k he hk=>?_)
         ·rw[happ]at he;have hj:j<ks.length:=(A0.1 hk).1;simp only[World.cell?,d1,Option.isSome_none,Bool.false_eq_true,if_false,d3];rw[b2];by_cases hen:e'<n
          ·have hlt:e'*ks.length+j<n*ks.length:=by
            have:(e'+1)*ks.length<=n*ks.length:=AH _ o_;rw[Nat.add_mul]at this;omega
           rw[AL o_,AM hen];have:=q2 _ _ (CV hen hj);simpa [World.cell?,b9,Nat.add_assoc]using this
          ·have hge2:n*ks.length<=e'*ks.length:=AH _ o_;have hlt:e'*ks.length+j<(n+r2.n)*ks.length:=by
            have:(e'+1)*ks.length<=(n+r2.n)*ks.length:=AH _ o_;rw[Nat.add_mul,Nat.one_mul]at this;omega
           rw[Nat.add_mul]at hlt;rw[AM (by rw[Am];omega),AL hen];rw[show L.off+e*ks.length+e'*ks.length+j-(L.off+e*ks.length+n*ks.length)=(e'-n)*ks.length+j by rw[Nat.sub_mul];omega];exact CV o_ hj
         ·rw[happ]at he;by_cases hen:e'<n
          ·rw[AM hen];exact((q1 e' j k hen hk).app_l (by rw[wn_];exact hen)).mono hok
          ·rw[AL hen];refine CellR.app_r (by rw[wn_];omega) ?_;rw[wn_];exact(hv2 (e'-n) j k o_ hk).mono hok
       ·rw[ha]at hV;simpa [Loc.adr]using hV
     ·
      obtain⟨ρ1,k1,k2,k3,_⟩:=hm.kill (id:=id) (fun _ _ _ h=>by rw[hb]at h;cases h);have hSrc':=hSrc;obtain⟨K,cv,w',m1,m2,m3,m4⟩:=Nj (P:=P) (ty:=ty) (mem:=mem.set id none) (ρ:=ρ1) k2 hB ht hi hz hsz hzo hbytes (base:=a) (n:=n) (cap:=cap) (r1:=w_ r0 e n) (v1:=v1) wn_ (by
       rw[hsz];rcases Nat.eq_zero_or_pos n with h0|h0
       ·subst h0;have:Ai ks.length 0 v1=[]:=by simp[Ai]
        rw[this];cases a with
        |none=>exact run_firstCells_none _ _ _ _ _
        |some a=>exact run_firstCells_some _ _ 0 _ _ _ [] y_ (fun j v hv=>by simp at hv)
       ·rw[g5 h0];refine run_firstCells_some w.drew _ n _ _ _ _ Am (fun j v hv=>?_);have:=q2 j v hv;rw[<-b2]at this;simp only[Loc.adr,Addr.add_lit];simpa using this) (fun e' j k he hk=>(q1 e' j k he hk).mono fun b hb'=>⟨k3 b hb',rfl⟩) hSrc' (fun e' j k he hk=>(hv2 e' j k he hk).mono fun b hb'=>⟨k3 b hb',rfl⟩) o_ hbound
      rw[hlen]at m2;refine⟨_,cv,w',m1,m2,fun i hi=>?_,by have:=m3 (mem.length+1) o_;rw[hlen]at this;exact this,fun W0 _ h1 h2=>m4 W0 h1 h2⟩;have:=k1 i;rcases this with h1|h1|⟨X,o,sb,h1,h2,h3⟩
      ·exact .inl ((Map.snoc_old hi).trans h1)
      ·exact .inr (.inl ((Map.snoc_old hi).trans h1))
      ·exact .inr (.inr ⟨X,o,sb,h1,(Map.snoc_old hi).trans h2,h3⟩)
   ·cases hd
  ·cases hd
 ·cases hd
end
def DenAt(P:Program)(wb:World)(f:FuncId)(F:FD):Prop:=∀(ds rs:List D),F ds=some (true,rs)->∀(w:World),Below wb.heap.size wb w->∀(args vs:List Value)(mem:M_)(ρ:Map),AU false ds []=some (vs,mem)->MemR mem ρ w.heap.size w->vs.length=args.length->(∀(i:Nat)(x c:Value),vs[i]? =some x->args[i]? =some c->V ρ mem.length x c)->Calls P f ⟨args⟩ w fun e w'=>∃cv,e=.returned cv∧Below w.heap.size w w'∧∃us mem' ρ',AU true rs []=some (us,mem')∧MemR mem' ρ' w.heap.size w'∧V ρ' mem'.length (tupV us) cv
def DenW(P:Program)(W:World->Prop)(f:FuncId)(F:FD):Prop:=∀wb,W wb->DenAt P wb f F
def Den(P:Program)(f:FuncId)(F:FD):Prop:=∀wb,DenAt P wb f F
def Den.at{P:Program}{f:FuncId}{F:FD}(h:Den P f F)(W:World->Prop):DenW P W f F:=fun wb _=>h wb
def DenW.mono{P:Program}{W W':World->Prop}{f:FuncId}{F:FD}(h:DenW P W f F)(hW:∀w,W' w->W w):DenW P W' f F:=fun wb hw=>h wb (hW wb hw)
def DenAt.later{P:Program}{wb w:World}{f:FuncId}{F:FD}(h:DenAt P wb f F)(hb:Below wb.heap.size wb w):DenAt P w f F:=fun ds rs h1 w' hw'=>h ds rs h1 w' (hb.trans (hw'.mono hb.size))
section
variable{P:Program}{mem mem':M_}{ρ ρ':Map}{B:Nat}{w w':World}
def Vs(ρ:Map)(N:Nat)(xs cs:List Value):Prop:=xs.length=cs.length∧∀(i:Nat)(x c:Value),xs[i]? =some x->cs[i]? =some c->V ρ N x c
def Vs.nil{N:Nat}:Vs ρ N [] []:=⟨rfl,fun i x c h=>by simp at h⟩
def Vs.cons{N:Nat}{x c:Value}{xs cs:List Value}(h:V ρ N x c)(hs:Vs ρ N xs cs):Vs ρ N (x::xs) (c::cs):=
 ⟨by simp[hs.1],fun i y d hy hd=>by
  cases i with
  |zero=>simp at hy hd;subst hy;subst hd;exact h
  |succ i=>exact hs.2 i y d (by simpa using hy) (by simpa using hd)⟩
def Vs.inv{N:Nat}{x:Value}{xs cs:List Value}(h:Vs ρ N (x::xs) cs):∃c cs',cs=c::cs'∧V ρ N x c∧Vs ρ N xs cs':=by
 obtain⟨h1,h2⟩:=h;cases cs with
 |nil=>simp at h1
 |cons c cs=>exact⟨c,cs,rfl,h2 0 x c rfl rfl,by simpa using h1,fun i y d hy hd=>h2 (i+1) y d (by simpa using hy) (by simpa using hd)⟩
def Vs.nil_inv{N:Nat}{cs:List Value}(h:Vs ρ N [] cs):cs=[]:=by simpa using h.1.symm
def Vs.mono{N N':Nat}{xs cs:List Value}(hN:N<=N')(hρ:∀id,id<N->Less ρ ρ' id)(h:Vs ρ N xs cs):Vs ρ' N' xs cs:=⟨h.1,fun i x c hx hc=>(h.2 i x c hx hc).mono hN hρ⟩
def Vs.agg{N:Nat}{xs cs:List Value}(h:Vs ρ N xs cs):V ρ N (.agg ⟨xs⟩) (.agg ⟨cs⟩):=.agg h.1 fun i x c hx hc=>h.2 i x c (by simpa using hx) (by simpa using hc)
def Vs.tuple{N:Nat}{xs cs:List Value}(h:Vs ρ N xs cs):V ρ N (.tuple ⟨xs⟩) (.tuple ⟨cs⟩):=.tuple h.1 fun i x c hx hc=>h.2 i x c (by simpa using hx) (by simpa using hc)
def NonOwn(mem:M_):Prop:=∀(id:Nat)(b:Blk),mem[id]? =some (some b)->b.own=false
def NonOwn.ok(h:NonOwn mem){b:Nat}(hb:b<w.heap.size):okB mem ρ w b:=⟨hb,fun id ⟨_,blk,_,h1,h2,_⟩=>by rw[h id blk h1]at h2;cases h2⟩
def NonOwn.snoc(h:NonOwn mem){b:Blk}(hb:b.own=false):NonOwn (mem++[some b]):=by
 intro id c hc;rcases BN hc with⟨h1,_⟩|⟨_,h1⟩
 ·exact h id c h1
 ·cases h1;exact hb
def OZ(hm:MemR mem ρ B w){x c:Value}{ck:CK}{d:D}(h:jT ck mem x=some d)(hx:V ρ mem.length x c){m1:M_}{ρ1:Map}(hm1:MemR m1 ρ1 w.heap.size w)(hn:NonOwn m1):
  ∃v m2 ρ2,Bj false m1 d=some (v,m2)∧MemR m2 ρ2 w.heap.size w∧NonOwn m2∧m1.length<=m2.length∧(∀id,id<m1.length->ρ2 id=ρ1 id)∧V ρ2 m2.length v c:=by
 unfold jT at h;split at h
 ·cases h;cases hx;refine⟨_,_,Map.snoc ρ1 m1.length ⟨0,0,(Y2 ck).length,0,0,false,s0⟩,rfl,hm1.alloc (blk:=.row (Y2 ck) false .nil) (Below.refl _ _) (fun h=>by cases h) ⟨rfl,rfl,(fun hf=>by cases hf),fun h=>by simp[Row.n]at h,rfl⟩,hn.snoc rfl,y_,fun id hid=>Map.snoc_old hid,?_⟩;exact .slice (L:=⟨0,0,(Y2 ck).length,0,0,false,s0⟩) y_ Map.snoc_new (by simp[Row.n]) (AC _) (fun h=>by simp[Row.n]at h) (fun h=>by cases h)
 ·rename_i id e len;split at h
  ·rename_i b hb;split at h
   case h_2=>cases h
   rename_i ks r hd;cases h;cases hx with
   |sliceDead g1 g2=>exact absurd g2 (BX hm hb)
   |@slice _ _ _ L a cap g1 g2 g3 g4 g5 g6=>
    obtain⟨b1,b2,b4⟩:=BlkR.dat hm hb g2 hd
    let L':Loc:=⟨L.b,L.off+e*L.sz,L.sz,0,len,false,s0⟩
    have hn2:NonOwn (m1++[some (.row ks false (w_ r e len))]):=hn.snoc rfl;refine⟨_,_,Map.snoc ρ1 m1.length L',by simp only[Bj];rfl,hm1.alloc (blk:=.row ks false (w_ r e len)) (Below.refl _ _) (fun h=>by cases h) ⟨wn_.symm,b2,(fun hf=>by cases hf),fun h0=>⟨fun _=>hn2.ok (b4 (by rw[wn_]at h0;omega)).1,?_⟩,rfl⟩,hn2,y_,fun id hid=>Map.snoc_old hid,?_⟩
    ·rw[wn_]at h0;have:=((b4 o_).2).winOf (e0:=e) (n:=len) o_;rw[<-b2]at this;exact this.mono (fun b hb'=>⟨hn2.ok hb',rfl⟩) rfl
    ·rw[wn_];refine .slice (L:=L') y_ Map.snoc_new (by simp[L']) g4 (fun h0=>?_) (fun h=>by cases h);rw[g5 h0];simp[Loc.adr,L']
  ·cases h
 ·split at h
  ·rename_i ha;cases h;have:c=x:=hx.atom1_eq ha;subst this;exact⟨c,m1,ρ1,by simp[Bj,ha],hm1,hn,AC _,fun _ _=>rfl,V.refl1 ha⟩
  ·cases h
def Nb(hm:MemR mem ρ B w):∀(xs:List Value)(cks:List CK)(ds:List D)(cs:List Value),Uz mem cks xs=some ds->Vs ρ mem.length xs cs->∀(m1:M_)(ρ1:Map),MemR m1 ρ1 w.heap.size w->NonOwn m1->
  ∃vs m2 ρ2,BJ false ds m1=some (vs,m2)∧MemR m2 ρ2 w.heap.size w∧NonOwn m2∧m1.length<=m2.length∧(∀id,id<m1.length->ρ2 id=ρ1 id)∧Vs ρ2 m2.length vs cs
 |[],cks,ds,cs,h,hv,m1,ρ1,hm1,hn=>by
  simp[Uz]at h;subst h;rw[hv.nil_inv];exact⟨[],m1,ρ1,rfl,hm1,hn,AC _,fun _ _=>rfl,.nil⟩
 |x::xs,cks,ds,cs,h,hv,m1,ρ1,hm1,hn=>by
  obtain⟨c,cs',rfl,hx,hxs⟩:=hv.inv;simp only[Uz]at h;split at h
  ·rename_i d ds' hd hds;cases h;obtain⟨v,m2,ρ2,k1,k2,k3,k4,k5,k6⟩:=OZ hm hd hx hm1 hn;obtain⟨vs,m3,ρ3,l1,l2,l3,l4,l5,l6⟩:=Nb hm xs _ ds' cs' hds hxs m2 ρ2 k2 k3;refine⟨v::vs,m3,ρ3,by simp[BJ,k1,l1],l2,l3,o_,fun id hid=>(l5 id o_).trans (k5 id hid),.cons (k6.mono l4 fun id hid=>.inl (l5 id hid)) l6⟩
  ·cases h
def Rj(hm:MemR mem ρ B w){x c:Value}{cks:List CK}{d:D}(h:toD cks mem x=some d)(hx:V ρ mem.length x c){m1:M_}{ρ1:Map}(hm1:MemR m1 ρ1 w.heap.size w)(hn:NonOwn m1):
  ∃v m2 ρ2,fromD false m1 d=some (v,m2)∧MemR m2 ρ2 w.heap.size w∧NonOwn m2∧m1.length<=m2.length∧(∀id,id<m1.length->ρ2 id=ρ1 id)∧V ρ2 m2.length v c:=by
 unfold toD at h;split at h
 ·rename_i cs0;split at h
  ·rename_i ds hds;cases h;cases hx with
   |@agg _ ys h1 h2=>
    obtain⟨vs,m2,ρ2,k1,k2,k3,k4,k5,k6⟩:=Nb hm cs0.toList _ ds ys.toList hds ⟨by simpa using h1,fun i x c hx hc=>h2 i x c (by simpa using hx) (by simpa using hc)⟩ m1 ρ1 hm1 hn;exact⟨.agg ⟨vs⟩,m2,ρ2,by simp[fromD,k1],k2,k3,k4,k5,k6.agg⟩
  ·cases h
 ·obtain⟨v,m2,ρ2,k1,k2⟩:=OZ hm h hx hm1 hn;refine⟨v,m2,ρ2,?_,k2⟩;rw[<-k1];unfold jT at h;split at h
  ·cases h;rfl
  ·split at h
   ·split at h
    ·cases h;rfl
    ·cases h
   ·cases h
  ·split at h
   ·cases h;rfl
   ·cases h
def Pn(hm:MemR mem ρ B w):∀(xs:List Value)(ckss:List (List CK))(ds:List D)(cs:List Value),Zp mem ckss xs=some ds->Vs ρ mem.length xs cs->∀(m1:M_)(ρ1:Map),MemR m1 ρ1 w.heap.size w->NonOwn m1->
  ∃vs m2 ρ2,AU false ds m1=some (vs,m2)∧MemR m2 ρ2 w.heap.size w∧NonOwn m2∧m1.length<=m2.length∧(∀id,id<m1.length->ρ2 id=ρ1 id)∧Vs ρ2 m2.length vs cs
 |[],cks,ds,cs,h,hv,m1,ρ1,hm1,hn=>by
  simp[Zp]at h;subst h;rw[hv.nil_inv];exact⟨[],m1,ρ1,rfl,hm1,hn,AC _,fun _ _=>rfl,.nil⟩
 |x::xs,cks,ds,cs,h,hv,m1,ρ1,hm1,hn=>by
  obtain⟨c,cs',rfl,hx,hxs⟩:=hv.inv;simp only[Zp]at h;split at h
  ·rename_i d ds' hd hds;cases h;obtain⟨v,m2,ρ2,k1,k2,k3,k4,k5,k6⟩:=Rj hm hd hx hm1 hn;obtain⟨vs,m3,ρ3,l1,l2,l3,l4,l5,l6⟩:=Pn hm xs _ ds' cs' hds hxs m2 ρ2 k2 k3;refine⟨v::vs,m3,ρ3,by simp[AU,k1,l1],l2,l3,o_,fun id hid=>(l5 id o_).trans (k5 id hid),.cons (k6.mono l4 fun id hid=>.inl (l5 id hid)) l6⟩
  ·cases h
def lX(hm:MemR mem ρ B w){cells:List Value}{ks:List CK}{r:Row}(h:Alq mem cells=some (ks,r)){b:Nat}{cc:Array Value}{T:TypeId}(hg:w.heap[b]? =some (.cells cc T (0,0)))(hs:cc.size=cells.length)
  (hv:∀(j:Nat)(x y:Value),cells[j]? =some x->cc[j]? =some y->V ρ mem.length x y) {ok':Nat->Prop} (hok:∀b,b<w.heap.size->ok' b):r.n=1∧Rds ok' w ks r b 0:=by
 unfold Alq at h;split at h
 ·rename_i k n;cases h;have hs':cc.size=1:=hs;obtain⟨y,hy⟩:∃y,cc[0]? =some y:=⟨cc[0],AJ o_⟩;have hV:=hv 0 _ y rfl hy;cases hV;refine⟨rfl,.mk (fun _ _=>.int k n) (fun e j k' he hk=>?_) (fun e j k' he hk=>?_)⟩
  ·change e<1 at he;cases j with
   |zero=>
    obtain rfl:e=0:=o_;simp[World.cell?,hg,hy]
   |succ j=>simp at hk
  ·cases j with
   |zero=>simp at hk;subst hk;exact .int
   |succ j=>simp at hk
 ·rename_i id e len;split at h
  ·rename_i b2 hb;split at h
   case h_2=>cases h
   rename_i ks2 r2 hd;cases h;have hs':cc.size=1:=hs;obtain⟨y,hy⟩:∃y,cc[0]? =some y:=⟨cc[0],AJ o_⟩;have hV:=hv 0 _ y rfl hy;cases hV with
   |sliceDead g1 g2=>exact absurd g2 (BX hm hb)
   |@slice _ _ _ L a cap g1 g2 g3 g4 g5 g6=>
    obtain⟨b1,b2,b4⟩:=BlkR.dat hm hb g2 hd;refine⟨rfl,.mk (fun _ _=>.slice a len cap) (fun e' j k' he hk=>?_) (fun e' j k' he hk=>?_)⟩
    ·change e'<1 at he;cases j with
     |zero=>
      obtain rfl:e'=0:=o_;simp[World.cell?,hg,hy]
     |succ j=>simp at hk
    ·cases j with
     |succ j=>simp at hk
     |zero=>
      simp at hk;subst hk;by_cases h0:len=0
      ·subst h0;exact .slice0 wn_
      ·rw[g5 o_];have hR:=((b4 o_).2).winOf (e0:=e) (n:=len) o_;rw[<-b2]at hR;exact .slice wn_ g4 (hok _ (b4 o_).1) (hR.mono (fun b hb'=>⟨hok _ hb',rfl⟩) rfl)
  ·cases h
 ·cases h
def X8(hm:MemR mem ρ B w){x c:Value}{cks:List CK}{d:D}(h:Ajc cks mem x=some d)(hx:V ρ mem.length x c){m1:M_}{ρ1:Map}(hm1:MemR m1 ρ1 w.heap.size w)(hn:NonOwn m1):
  ∃v m2 ρ2,fromD false m1 d=some (v,m2)∧MemR m2 ρ2 w.heap.size w∧NonOwn m2∧m1.length<=m2.length∧(∀id,id<m1.length->ρ2 id=ρ1 id)∧V ρ2 m2.length v c:=by
 unfold Ajc at h;split at h
 ·rename_i id;split at h
  ·rename_i cells hb;split at h
   ·rename_i ks r hbx;cases h;obtain⟨L,hL,hbr⟩:=hm.blk _ _ hb;obtain⟨b1,b2,b3,b4,cc,T,b5,b6,b7,_⟩:=hbr;cases hx with
    |ptrDead g1 g2=>exact absurd g2 (BX hm hb)
    |@ptr _ _ _ M g1 g2 g3=>
     rw[hL]at g2;cases g2
     let L':Loc:=⟨L.b,0,ks.length,0,1,false,s0⟩
     have hn2:NonOwn (m1++[some (.row ks false r)]):=hn.snoc rfl;have hlt:L.b<w.heap.size:=(A1.1 b5).1;obtain⟨c1,c2⟩:=lX hm hbx b5 b6 b7 (ok':=okB (m1++[some (.row ks false r)]) (Map.snoc ρ1 m1.length L') w) (fun b hb=>hn2.ok hb);refine⟨_,_,Map.snoc ρ1 m1.length L',rfl,hm1.alloc (blk:=.row ks false r) (Below.refl _ _) (fun h=>by cases h) ⟨c1.symm,rfl,(fun hf=>by cases hf),fun h0=>⟨fun _=>hn2.ok hlt,c2⟩,rfl⟩,hn2,y_,fun id hid=>Map.snoc_old hid,?_⟩;have:=V.ptr (ρ:=Map.snoc ρ1 m1.length L') (N:=(m1++[some (Blk.row ks false r)]).length) (id:=m1.length) (e:=0) (j:=0) (L:=L') y_ Map.snoc_new (by simp[L']);have hadr:L.adr 0 0=L'.adr 0 0:=by simp[Loc.adr,L',b2]
     rw[hadr];exact this
   ·cases h
  ·cases h
 ·exact Rj hm h hx hm1 hn
def MS(hm:MemR mem ρ B w):∀(xs:List Value)(ckss:List (List CK))(ds:List D)(cs:List Value),QV mem ckss xs=some ds->Vs ρ mem.length xs cs->∀(m1:M_)(ρ1:Map),MemR m1 ρ1 w.heap.size w->NonOwn m1->
  ∃vs m2 ρ2,AU false ds m1=some (vs,m2)∧MemR m2 ρ2 w.heap.size w∧NonOwn m2∧m1.length<=m2.length∧(∀id,id<m1.length->ρ2 id=ρ1 id)∧Vs ρ2 m2.length vs cs
 |[],cks,ds,cs,h,hv,m1,ρ1,hm1,hn=>by
  simp[QV]at h;subst h;rw[hv.nil_inv];exact⟨[],m1,ρ1,rfl,hm1,hn,AC _,fun _ _=>rfl,.nil⟩
 |x::xs,cks,ds,cs,h,hv,m1,ρ1,hm1,hn=>by
  obtain⟨c,cs',rfl,hx,hxs⟩:=hv.inv;simp only[QV]at h;split at h
  ·rename_i d ds' hd hds;cases h;obtain⟨v,m2,ρ2,k1,k2,k3,k4,k5,k6⟩:=X8 hm hd hx hm1 hn;obtain⟨vs,m3,ρ3,l1,l2,l3,l4,l5,l6⟩:=MS hm xs _ ds' cs' hds hxs m2 ρ2 k2 k3;refine⟨v::vs,m3,ρ3,by simp[AU,k1,l1],l2,l3,o_,fun id hid=>(l5 id o_).trans (k5 id hid),.cons (k6.mono l4 fun id hid=>.inl (l5 id hid)) l6⟩
  ·cases h
def DenAt.callP{wb:World}{f:FuncId}{F:FD}(hF:DenAt P wb f F)(hw:Below wb.heap.size wb w)(hm:MemR mem ρ B w){xs:List Value}{ckss:List (List CK)}{ds rs:List D}{cs:List Value}(hd:QV mem ckss xs=some ds)(hv:Vs ρ mem.length xs cs)(hr:F ds=some (true,rs)):
  Calls P f ⟨cs⟩ w fun e w'=>∃cv,e=.returned cv∧Below w.heap.size w w'∧∃us mem' ρ',AU true rs []=some (us,mem')∧MemR mem' ρ' w.heap.size w'∧V ρ' mem'.length (tupV us) cv:=by
 obtain⟨vs,m2,ρ2,k1,k2,k3,k4,k5,k6⟩:=MS hm xs _ ds cs hd hv [] (fun _=>none) ⟨fun id b h=>by simp at h,fun _ _=>rfl,fun i j b h=>by obtain⟨_,_,h1,_⟩:=h;cases h1⟩ (fun id b h=>by simp at h);exact hF ds rs hr w hw cs vs m2 ρ2 k1 k2 k6.1 k6.2
def DenAt.call{wb:World}{f:FuncId}{F:FD}(hF:DenAt P wb f F)(hw:Below wb.heap.size wb w)(hm:MemR mem ρ B w){xs:List Value}{ckss:List (List CK)}{ds rs:List D}{cs:List Value}(hd:Zp mem ckss xs=some ds)(hv:Vs ρ mem.length xs cs)(hr:F ds=some (true,rs)):
  Calls P f ⟨cs⟩ w fun e w'=>∃cv,e=.returned cv∧Below w.heap.size w w'∧∃us mem' ρ',AU true rs []=some (us,mem')∧MemR mem' ρ' w.heap.size w'∧V ρ' mem'.length (tupV us) cv:=by
 obtain⟨vs,m2,ρ2,k1,k2,k3,k4,k5,k6⟩:=Pn hm xs _ ds cs hd hv [] (fun _=>none) ⟨fun id b h=>by simp at h,fun _ _=>rfl,fun i j b h=>by obtain⟨_,_,h1,_⟩:=h;cases h1⟩ (fun id b h=>by simp at h);exact hF ds rs hr w hw cs vs m2 ρ2 k1 k2 k6.1 k6.2
end
section
variable{P:Program}{mem mem':M_}{ρ ρ':Map}{B:Nat}{w w':World}
def flat_get:∀{ks:List CK}{j:Nat}{k:CK},flat ks=true->ks[j]? =some k->(∃kd,k=.int kd)∨k=.bool∨k=.str
 |[],j,k,_,h=>by simp at h
 |c::ks,0,k,hf,h=>by
  simp at h;subst h;cases c<;>simp[flat]at hf⊢
 |c::ks,j+1,k,hf,h=>by
  simp at h;refine flat_get ?_ h;cases c<;>simp[flat]at hf⊢<;>exact hf
def CellR.flat{ok ok':Nat->Prop}{k:CK}{r:Row}{e j:Nat}{v:Value}(hk:(∃kd,k=.int kd)∨k=.bool∨k=.str)(h:CellR ok w k r e j v):CellR ok' w' k r e j v:=by
 rcases hk with⟨kd,rfl⟩|rfl|rfl<;>cases h
 ·exact .int
 ·exact .bool
 ·exact .str
def Rds.flat{ok ok':Nat->Prop}{ks:List CK}{r:Row}{b off:Nat}(hf:flat ks=true)(hb:w'.heap[b]? =w.heap[b]?)(h:Rds ok w ks r b off):Rds ok' w' ks r b off:=by
 cases h with
 |mk v h1 h2=>exact .mk v (fun e j k he hk=>(World.cell?_of_block (a:=⟨b,off+e*ks.length+j,none⟩) hb).trans (h1 e j k he hk)) fun e j k he hk=>(h2 e j k he hk).flat (flat_get hf hk)
def FlatB(b:Blk):Prop:=(∃ks r,b=.row ks true r∧flat ks=true)∨∃ks r,b=.deep ks r none
def Flat(mem:M_):Prop:=∀(id:Nat)(b:Blk),mem[id]? =some (some b)->FlatB b
def LY(ks:List CK)(r:Row):FlatB (Hz ks r):=by
 unfold Hz;split
 ·exact .inl ⟨_,_,rfl,by assumption⟩
 ·exact .inr ⟨_,_,rfl⟩
def FlatB.free{b:Blk}{L:Loc}(h:FlatB b)(hr:BlkR mem ρ w B L b):BlkR mem' ρ' w B L b:=by
 rcases h with⟨ks,r,rfl,hf⟩|⟨ks,r,rfl⟩
 ·exact⟨hr.1,hr.2.1,hr.2.2.1,fun hn=>⟨(fun hf=>by cases hf),((hr.2.2.2.1 hn).2).flat hf rfl⟩,hr.2.2.2.2⟩
 ·exact hr
def SubR.base{B':Nat}(hB:B'<=B){ks:List CK}{r:Row}{ob:Option Nat}{v:Value}(h:SubR B w ks r ob v):SubR B' w ks r ob v:=by
 obtain⟨a,cap,h1,h2,h3⟩:=h;refine⟨a,cap,h1,h2,?_⟩;rcases h3 with h3|⟨b,off,c,T,g1,g2,g3,g4⟩
 ·exact .inl h3
 ·exact .inr ⟨b,off,c,T,g1,g2,o_,g4⟩
def DCell.base{B':Nat}(hB:B'<=B){k:CK}{r:Row}{e j:Nat}{hole:Bool}{ob:Option Nat}{v:Value}(h:DCell B w k r e j hole ob v):DCell B' w k r e j hole ob v:=by
 cases k with
 |slice sub=>exact⟨h.1,h.2.1,fun hh=>(h.2.2 hh).base hB⟩
 |int k=>exact h
 |bool=>exact h
 |str=>exact h
 |other=>exact h
def FlatB.base{B':Nat}(hB:B'<=B){b:Blk}{L:Loc}(h:FlatB b)(hr:BlkR mem ρ w B L b):BlkR mem ρ w B' L b:=by
 rcases h with⟨ks,r,rfl,hf⟩|⟨ks,r,rfl⟩
 ·refine⟨hr.1,hr.2.1,fun ho=>⟨(hr.2.2.1 ho).1,(hr.2.2.1 ho).2.1,fun ht=>?_⟩,hr.2.2.2⟩;obtain⟨k1,k2⟩:=(hr.2.2.1 ho).2.2 ht;exact⟨o_,k2⟩
 ·obtain⟨h1,h2,h3,h4,h5,h6,h7,h8⟩:=hr;refine⟨h1,h2,h3,h4,fun ht=>?_,fun e j k he hk=>?_,h7,h8⟩
  ·obtain⟨k1,k2⟩:=h5 ht;exact⟨o_,k2⟩
  ·obtain⟨v,g1,g2⟩:=h6 e j k he hk;exact⟨v,g1,g2.base hB⟩
def FlatB.fresh{b:Blk}{L:Loc}(h:FlatB b)(hr:BlkR mem ρ w B L b):∀c,L.foot c->B<=c:=by
 rcases h with⟨ks,r,rfl,hf⟩|⟨ks,r,rfl⟩
 ·exact Loc.fresh hr.2.2.2.2 fun ht=>((hr.2.2.1 rfl).2.2 ht).1
 ·exact fun c hc=>(BlkR.deep_lt hr hc).2
def Flat.snoc(h:Flat mem){b:Blk}(hf:FlatB b):Flat (mem++[some b]):=by
 intro id c hc;rcases BN hc with⟨h1,_⟩|⟨_,h1⟩
 ·exact h id c h1
 ·cases h1;exact hf
def Na{m1 m2:M_}{d:D}{x:Value}(h:Bj true m1 d=some (x,m2))(hf:Flat m1):Flat m2∧(Di x=true∨(∃id n,x=.slice (some ⟨id,0,some 0⟩) n 0)∨∃b,x=rX b):=by
 unfold Bj at h;split at h
 ·split at h
  ·rename_i ha;cases h;exact⟨hf,.inl ha⟩
  ·cases h
 ·rename_i ks r;cases h;exact⟨hf.snoc (LY ks r),.inr (.inl ⟨_,_,rfl⟩)⟩
 ·cases h
 ·cases h
 ·cases h;exact⟨hf,.inr (.inr ⟨_,rfl⟩)⟩
def LC:∀{ds:List D}{m1 m2:M_}{xs:List Value},BJ true ds m1=some (xs,m2)->Flat m1->Flat m2
 |[],m1,m2,xs,h,hf=>by simp[BJ]at h;rw[<-h.2];exact hf
 |d::ds,m1,m2,xs,h,hf=>by
  simp only[BJ]at h;split at h
  ·rename_i x m3 h1;split at h
   ·rename_i ys m4 h2;cases h;exact LC h2 (Na h1 hf).1
   ·cases h
  ·cases h
def Xu{m1 m2:M_}{d:D}{x:Value}(h:fromD true m1 d=some (x,m2))(hf:Flat m1):Flat m2:=by
 unfold fromD at h;split at h
 ·split at h
  ·rename_i h1;cases h;exact LC h1 hf
  ·cases h
 ·exact(Na h hf).1
def MN:∀{ds:List D}{m1 m2:M_}{xs:List Value},AU true ds m1=some (xs,m2)->Flat m1->Flat m2
 |[],m1,m2,xs,h,hf=>by simp[AU]at h;rw[<-h.2];exact hf
 |d::ds,m1,m2,xs,h,hf=>by
  simp only[AU]at h;split at h
  ·rename_i x m3 h1;split at h
   ·rename_i ys m4 h2;cases h;exact MN h2 (Xu h1 hf)
   ·cases h
  ·cases h
def Jr{α:Type}{l m:List α}{i:Nat}{x:α}(h:(l++m)[i]? =some x):(i<l.length∧l[i]? =some x)∨(l.length<=i∧m[i-l.length]? =some x):=by
 rw[List.getElem?_append]at h;split at h
 ·exact .inl ⟨by assumption,h⟩
 ·exact .inr ⟨o_,h⟩
def Map.join(ρ:Map)(n:Nat)(ρ':Map):Map:=fun id=>if id<n then ρ id else ρ' (id-n)
def MemR.join(h:MemR mem ρ B w)(hb:Below w.heap.size w w')(hB:B<=w.heap.size)(h':MemR mem' ρ' w.heap.size w')(hf:Flat mem'):MemR (mem++mem') (Map.join ρ mem.length ρ') B w':=by
 have hown:∀(i b:Nat),Az (mem++mem') (Map.join ρ mem.length ρ') i b->(i<mem.length∧Az mem ρ i b∧b<w.heap.size)∨(mem.length<=i∧Az mem' ρ' (i-mem.length) b∧w.heap.size<=b):=by
  intro i b ⟨M,blk,g1,g3,g4,g2⟩;rcases Jr g3 with⟨g5,g6⟩|⟨g5,g6⟩
  ·simp only[Map.join,g5,if_true]at g1;have:Az mem ρ i b:=⟨M,blk,g1,g6,g4,g2⟩;exact .inl ⟨g5,this,Df h this⟩
  ·have hne:¬i<mem.length:=o_;simp only[Map.join,hne,if_false]at g1;refine .inr ⟨g5,⟨M,blk,g1,g6,g4,g2⟩,?_⟩;obtain⟨L,hL,hr⟩:=h'.blk _ _ g6;rw[g1]at hL;cases hL;exact(hf _ _ g6).fresh hr b g2
 have hok:∀b,okB mem ρ w b->okB (mem++mem') (Map.join ρ mem.length ρ') w' b∧w'.heap[b]? =w.heap[b]? :=by
  intro b hb';refine⟨⟨Nat.lt_of_lt_of_le hb'.1 hb.size,fun i hM=>?_⟩,hb.block b hb'.1⟩;rcases hown i b hM with⟨_,g1,_⟩|⟨_,_,g1⟩
  ·exact hb'.2 i g1
  ·have:=hb'.1;omega
 refine h.step y_ (fun i hi=>.inl (by simp[Map.join,hi])) hok (fun i b hi=>?_) (fun i hi=>?_) (fun i j b hi hj=>?_)
 ·rcases Jr hi with⟨g5,g6⟩|⟨g5,g6⟩
  ·refine .inl ⟨g6,by simp[Map.join,g5],fun M hM ho c hc=>hb.block _ (Df h ⟨M,b,hM,g6,ho,hc⟩),fun p e j ks r _ kps rp hh Lp q1 q2=>?_⟩;have hp:p<mem.length:=(A0.1 q1).1;exact⟨by rw[AQ hp];exact q1,by simp[Map.join,hp,q2],fun ht=>hb.block _ (Df h ⟨Lp,_,q2,q1,rfl,.inl ⟨ht,rfl⟩⟩)⟩
  ·obtain⟨L,hL,hr⟩:=h'.blk _ _ g6;have hne:¬i<mem.length:=o_;exact .inr ⟨L,by simp[Map.join,hne,hL],(hf _ _ g6).free ((hf _ _ g6).base hB hr)⟩
 ·by_cases hlt:i<mem.length
  ·simp only[Map.join,hlt,if_true];exact h.dead i fun b hb'=>hi b (by rw[AQ hlt];exact hb')
  ·simp only[Map.join,hlt,if_false];exact h'.dead _ fun b hb'=>hi b (by rw[List.getElem?_append_right o_];exact hb')
 ·rcases hown i b hi with⟨p1,p2,p3⟩|⟨p1,p2,p3⟩<;>rcases hown j b hj with⟨q1,q2,q3⟩|⟨q1,q2,q3⟩
  ·exact h.inj i j b p2 q2
  ·omega
  ·omega
  ·have:=h'.inj _ _ b p2 q2;omega
def bK{N k:Nat}{ρ2:Map}(hρ:∀id,ρ2 (id+k)=ρ' id){d:D}{m1 m2:M_}{x:Value}(h:Bj true m1 d=some (x,m2))(hk:mem.length=k):
  ∃y,Bj true (mem++m1) d=some (y,mem++m2)∧∀N2 c,N+k<=N2->V ρ' N x c->V ρ2 N2 y c:=by
 unfold Bj at h;split at h
 ·split at h
  ·rename_i x' ha;cases h;refine⟨x,by simp only[Bj,ha],fun N2 c _ hv=>?_⟩;have:c=x:=hv.atom1_eq ha;subst this;exact V.refl1 ha
  ·cases h
 ·rename_i ks r;cases h;refine⟨.slice (some ⟨(mem++m1).length,0,some 0⟩) r.n 0,by simp only[Bj,List.append_assoc],fun N2 c hN hv=>?_⟩;rw[AG,hk,Nat.add_comm k];cases hv with
  |sliceDead h1 h2=>exact .sliceDead o_ (by rw[hρ];exact h2)
  |slice h1 h2 h3 h4 h5 h6=>exact .slice o_ (by rw[hρ];exact h2) h3 h4 h5 h6
 ·cases h
 ·cases h
 ·cases h;refine⟨rX _,rfl,fun N2 c _ hv=>?_⟩;cases hv with
  |iface h1 h2=>exact .iface h1 h2
def Y0{N k:Nat}{ρ2:Map}(hρ:∀id,ρ2 (id+k)=ρ' id)(hk:mem.length=k):∀{ds:List D}{m1 m2:M_}{xs:List Value},BJ true ds m1=some (xs,m2)->
  ∃ys,BJ true ds (mem++m1)=some (ys,mem++m2)∧∀N2 cs,N+k<=N2->Vs ρ' N xs cs->Vs ρ2 N2 ys cs
 |[],m1,m2,xs,h=>by
  simp[BJ]at h;obtain⟨rfl,rfl⟩:=h;exact⟨[],rfl,fun N2 cs _ hv=>by rw[hv.nil_inv];exact .nil⟩
 |d::ds,m1,m2,xs,h=>by
  simp only[BJ]at h;split at h
  ·rename_i x m3 h1;split at h
   ·rename_i ys m4 h2;cases h;obtain⟨y,k1,k2⟩:=bK (N:=N) hρ h1 hk;obtain⟨zs,l1,l2⟩:=Y0 (N:=N) hρ hk h2;refine⟨y::zs,by simp[BJ,k1,l1],fun N2 cs hN hv=>?_⟩;obtain⟨c,cs',rfl,g1,g2⟩:=hv.inv;exact .cons (k2 N2 c hN g1) (l2 N2 cs' hN g2)
   ·cases h
  ·cases h
def Aik{N k:Nat}{ρ2:Map}(hρ:∀id,ρ2 (id+k)=ρ' id){d:D}{m1 m2:M_}{x:Value}(h:fromD true m1 d=some (x,m2))(hk:mem.length=k):
  ∃y,fromD true (mem++m1) d=some (y,mem++m2)∧∀N2 c,N+k<=N2->V ρ' N x c->V ρ2 N2 y c:=by
 unfold fromD at h⊢;split at h
 ·rename_i ds;split at h
  ·rename_i xs m3 h1;cases h;obtain⟨ys,k1,k2⟩:=Y0 (N:=N) hρ hk h1;refine⟨.agg ⟨ys⟩,by simp[k1],fun N2 c hN hv=>?_⟩;cases hv with
   |@agg _ cs g1 g2=>
    have:=k2 N2 cs.toList hN ⟨by simpa using g1,fun i x c hx hc=>g2 i x c (by simpa using hx) (by simpa using hc)⟩;exact this.agg
  ·cases h
 ·obtain⟨y,k1,k2⟩:=bK (N:=N) hρ h hk;refine⟨y,?_,k2⟩;rw[<-k1]
def Yt{N k:Nat}{ρ2:Map}(hρ:∀id,ρ2 (id+k)=ρ' id)(hk:mem.length=k):∀{ds:List D}{m1 m2:M_}{xs:List Value},AU true ds m1=some (xs,m2)->
  ∃ys,AU true ds (mem++m1)=some (ys,mem++m2)∧ys.length=xs.length∧∀N2 cs,N+k<=N2->Vs ρ' N xs cs->Vs ρ2 N2 ys cs
 |[],m1,m2,xs,h=>by
  simp[AU]at h;obtain⟨rfl,rfl⟩:=h;exact⟨[],rfl,rfl,fun N2 cs _ hv=>by rw[hv.nil_inv];exact .nil⟩
 |d::ds,m1,m2,xs,h=>by
  simp only[AU]at h;split at h
  ·rename_i x m3 h1;split at h
   ·rename_i ys m4 h2;cases h;obtain⟨y,k1,k2⟩:=Aik (N:=N) hρ h1 hk;obtain⟨zs,l1,l0,l2⟩:=Yt (N:=N) hρ hk h2;refine⟨y::zs,by simp[AU,k1,l1],by simp[l0],fun N2 cs hN hv=>?_⟩;obtain⟨c,cs',rfl,g1,g2⟩:=hv.inv;exact .cons (k2 N2 c hN g1) (l2 N2 cs' hN g2)
   ·cases h
  ·cases h
def XD{N:Nat}{xs:List Value}{c:Value}(h:V ρ N (tupV xs) c):∃cs,c=tupV cs∧Vs ρ N xs cs:=by
 match xs,h with
 |[x],h=>exact⟨[c],rfl,.cons h .nil⟩
 |[],h=>
  cases h with
  |@tuple _ ys h1 h2=>
   refine⟨ys.toList,?_,by simpa using h1,fun i x c hx hc=>by simp at hx⟩;have:ys.toList=[]:=by simpa using h1.symm
   rw[this];have:ys= #[]:=by simpa using this
   rw[this];rfl
 |x::y::xs,h=>
  cases h with
  |@tuple _ ys h1 h2=>
   refine⟨ys.toList,?_,by simpa using h1,fun i x c hx hc=>h2 i x c (by simpa using hx) (by simpa using hc)⟩;obtain⟨l⟩:=ys
   match l,h1 with
   |a::b::l,_=>rfl
def Vs.tupV{N:Nat}{xs cs:List Value}(h:Vs ρ N xs cs):V ρ N (tupV xs) (tupV cs):=by
 match xs,cs,h with
 |[x],cs,h=>
  obtain⟨c,cs',rfl,h1,h2⟩:=h.inv;rw[h2.nil_inv];exact h1
 |[],cs,h=>rw[h.nil_inv];exact .tuple rfl fun i x c hx=>by simp at hx
 |x::y::xs,cs,h=>
  obtain⟨c,cs',rfl,h1,h2⟩:=h.inv;obtain⟨c2,cs2,rfl,h3,h4⟩:=h2.inv;exact(Vs.cons h1 (Vs.cons h3 h4)).tuple
def Su(h:MemR mem ρ B w)(hb:Below w.heap.size w w')(hB:B<=w.heap.size){rs:List D}{us:List Value}{cv:Value}(hf:AU true rs []=some (us,mem'))(h':MemR mem' ρ' w.heap.size w')(hv:V ρ' mem'.length (tupV us) cv):
  ∃us2 ρ2,AU true rs mem=some (us2,mem++mem')∧MemR (mem++mem') ρ2 B w'∧(∀id,id<mem.length->ρ2 id=ρ id)∧V ρ2 (mem++mem').length (tupV us2) cv:=by
 have hfl:Flat mem':=MN hf (fun id b h=>by simp at h);obtain⟨ys,k1,k0,k2⟩:=Yt (N:=mem'.length) (k:=mem.length) (mem:=mem) (ρ':=ρ') (ρ2:=Map.join ρ mem.length ρ') (fun id=>by simp[Map.join];omega) rfl hf;rw[List.append_nil]at k1;obtain⟨cs,rfl,g1⟩:=XD hv;exact⟨ys,Map.join ρ mem.length ρ',k1,h.join hb hB h' hfl,fun id hid=>by simp[Map.join,hid],(k2 _ _ z_ g1).tupV⟩
end
section
variable{P:Program}{mem mem':M_}{ρ ρ':Map}{B:Nat}{w w':World}
def MemR.snocFlat(h:MemR mem ρ B w)(hf:Flat mem){blk:Blk}{L:Loc}(hdis:∀(j b:Nat),Az mem ρ j b->¬L.foot b)(hr:∀(m:M_)(ρ:Map),BlkR m ρ w B L blk):
  MemR (mem++[some blk]) (Map.snoc ρ mem.length L) B w:=by
 have hown:∀(i b:Nat),Az (mem++[some blk]) (Map.snoc ρ mem.length L) i b->(i<mem.length∧Az mem ρ i b)∨(i=mem.length∧L.foot b):=by
  intro i b ⟨M,c,g1,g3,g4,g2⟩;rcases BN g3 with⟨g5,g6⟩|⟨g5,_⟩
  ·rw[Map.snoc_old g6]at g1;exact .inl ⟨g6,M,c,g1,g5,g4,g2⟩
  ·subst g5;rw[Map.snoc_new]at g1;cases g1;exact .inr ⟨rfl,g2⟩
 refine⟨fun i b hi=>?_,fun i hi=>?_,fun i j b hi hj=>?_⟩
 ·rcases BN hi with⟨g5,g6⟩|⟨g5,g6⟩
  ·obtain⟨M,hM,hr⟩:=h.blk i b g5;exact⟨M,(Map.snoc_old g6).trans hM,(hf i b g5).free hr⟩
  ·cases g6;subst g5;exact⟨L,Map.snoc_new,hr _ _⟩
 ·have hne:i≠mem.length:=by
   rintro rfl;exact hi blk y_
  have:Map.snoc ρ mem.length L i=ρ i:=by simp[Map.snoc,hne]
  rw[this];refine h.dead i fun b hb'=>hi b ?_;rw[AQ (A0.1 hb').1];exact hb'
 ·rcases hown i b hi with⟨p1,p2⟩|⟨p1,p2⟩<;>rcases hown j b hj with⟨q1,q2⟩|⟨q1,q2⟩
  ·exact h.inj i j b p2 q2
  ·exact absurd q2 (hdis i b p2)
  ·exact absurd p2 (hdis j b q2)
  ·omega
def Apart(mem:M_)(ρ:Map)(m1:M_)(ρ1:Map):Prop:=∀(i j b:Nat),Az mem ρ i b->¬Az m1 ρ1 j b
def OI(ks:List CK)(m:M_)(ρ:Map):BlkR m ρ w B ⟨0,0,ks.length,0,0,true,s0⟩ (Hz ks .nil):=by
 unfold Hz;split
 ·exact⟨rfl,rfl,fun _=>⟨rfl,AC _,fun h=>by simp at h⟩,fun h=>by simp[Row.n]at h,rfl⟩
 ·exact⟨rfl,rfl,rfl,AC _,fun h=>by simp at h,fun e j k he=>by simp[Row.n]at he,fun e j b h=>by simp at h,fun _ e j e' j' b h=>by simp at h⟩
def MX(hm:MemR mem ρ B w){x c:Value}{ck:CK}{d:D}{mem1:M_}(h:U9 ck mem x=some (d,mem1))(hx:V ρ mem.length x c){m1:M_}{ρ1:Map}(hm1:MemR m1 ρ1 B w)(hf:Flat m1)(hdis:Apart mem ρ m1 ρ1):
  ∃ρ',(∀i,Less ρ ρ' i)∧MemR mem1 ρ' B w∧mem1.length=mem.length∧∃v m2 ρ2,Bj true m1 d=some (v,m2)∧MemR m2 ρ2 B w∧Flat m2∧m1.length<=m2.length∧(∀id,id<m1.length->ρ2 id=ρ1 id)∧V ρ2 m2.length v c∧Apart mem1 ρ' m2 ρ2:=by
 have main:∀{id e len:Nat}{blk:Blk}{ks:List CK}{r:Row}{L:Loc}(_:mem[id]? =some (some blk))(_:ρ id=some L)(_:blk.own=true)(_:L.own=true)(_:L.n=r.n)(sub':Nat->Nat->Option Nat)
   (_:∀e' j b,sub' e' j=some b->L.foot b) (_:∀(m:M_)(ρ:Map),e+len<=L.n->e<=L.tot->BlkR m ρ w B ⟨L.b,L.off+e*L.sz,L.sz,L.tot-e,len,true,sub'⟩ (Hz ks (w_ r e len)))
   (_:V ρ mem.length (.slice (some ⟨id,e,some 0⟩) len 0) c) {mem1:M_} (_:∃ρ',(∀i,Less ρ ρ' i)∧MemR mem1 ρ' B w∧∀(i b:Nat),Az mem1 ρ' i b->i≠id∧Az mem ρ i b) (_:mem1.length=mem.length),
   ∃ρ',(∀i,Less ρ ρ' i)∧MemR mem1 ρ' B w∧mem1.length=mem.length∧∃v m2 ρ2,Bj true m1 (.slice ks (w_ r e len))=some (v,m2)∧MemR m2 ρ2 B w∧Flat m2∧m1.length<=m2.length∧(∀id,id<m1.length->ρ2 id=ρ1 id)∧V ρ2 m2.length v c∧Apart mem1 ρ' m2 ρ2:=by
  intro id e len blk ks r L hb hL ho hLo hn sub' hsub hr hx mem1 hk hlen;obtain⟨ρ',k1,k2,k4⟩:=hk;cases hx with
  |sliceDead g1 g2=>exact absurd g2 (BX hm hb)
  |@slice _ _ _ M a cap g1 g2 g3 g4 g5 g6=>
   rw[hL]at g2;cases g2;obtain⟨g7,g8⟩:=g6 hLo
   let L':Loc:=⟨L.b,L.off+e*L.sz,L.sz,L.tot-e,len,true,sub'⟩
   have hO:∀b,L'.foot b->Az mem ρ id b:=by
    intro b hb';refine⟨L,blk,hL,hb,ho,?_⟩;rcases hb' with⟨h1,h2⟩|⟨e',j,h1⟩
    ·exact .inl ⟨by simp only[L']at h1;omega,h2⟩
    ·exact hsub e' j b h1
   have hsn:MemR (m1++[some (Hz ks (w_ r e len))]) (Map.snoc ρ1 m1.length L') B w:=hm1.snocFlat hf (fun j b hj hb'=>hdis id j b (hO b hb') hj) fun m ρ=>hr m ρ g3 o_;refine⟨ρ',k1,k2,hlen,_,_,Map.snoc ρ1 m1.length L',rfl,hsn,hf.snoc (LY _ _),y_,fun id hid=>Map.snoc_old hid,?_,fun i j b hi ⟨M,blk',q1,q3,q4,q2⟩=>?_⟩
   ·rw[wn_];refine .slice (L:=L') y_ Map.snoc_new (by simp[L']) g4 (fun h0=>?_) (fun _=>⟨by simp only[L',AE];omega,?_⟩)
    ·rw[g5 h0];simp[Loc.adr,L']
    ·rcases g8 with g8|g8
     ·exact .inl g8
     ·right;rw[g8];simp[Loc.adr,L']
   ·obtain⟨k5,k6⟩:=k4 i b hi;rcases BN q3 with⟨q5,q6⟩|⟨q5,_⟩
    ·rw[Map.snoc_old q6]at q1;exact hdis i j b k6 ⟨M,blk',q1,q5,q4,q2⟩
    ·subst q5;rw[Map.snoc_new]at q1;cases q1;exact k5 (hm.inj i id b k6 (hO b q2))
 unfold U9 at h;split at h
 ·cases h;cases hx;have hsn:MemR (m1++[some (Hz (OG ck) .nil)]) (Map.snoc ρ1 m1.length ⟨0,0,(OG ck).length,0,0,true,s0⟩) B w:=hm1.snocFlat hf (fun _ _ _ hb=>by have:=(Loc.foot_s0 rfl hb).1;simp at this) fun m ρ=>OI _ m ρ;refine⟨ρ,Less.refl ρ,hm,rfl,_,_,Map.snoc ρ1 m1.length ⟨0,0,(OG ck).length,0,0,true,s0⟩,rfl,hsn,hf.snoc (LY _ _),y_,fun id hid=>Map.snoc_old hid,?_,fun i j b hi ⟨M,blk',g1,g3,g4,g2⟩=>?_⟩
  ·exact .slice (L:=⟨0,0,(OG ck).length,0,0,true,s0⟩) y_ Map.snoc_new (by simp[Row.n]) (AC _) (fun h=>by simp[Row.n]at h) (fun _=>⟨y_,.inl rfl⟩)
  ·rcases BN g3 with⟨g5,g6⟩|⟨g5,_⟩
   ·rw[Map.snoc_old g6]at g1;exact hdis i j b hi ⟨M,blk',g1,g5,g4,g2⟩
   ·subst g5;rw[Map.snoc_new]at g1;cases g1;have:=(Loc.foot_s0 rfl g2).1;simp at this
 ·rename_i id e len;split at h
  ·rename_i ks r hb;split at h
   ·rename_i hfl;cases h;obtain⟨L,hL,hbr⟩:=hm.blk _ _ hb;obtain⟨ρ',k1,k2,_,k4⟩:=hm.kill (id:=id) (fun _ _ _ h=>by rw[hb]at h;cases h);obtain⟨b1,b2,b3,b4,b0⟩:=hbr;obtain⟨b5,b6,b7⟩:=b3 rfl;refine main hb hL rfl b5 b1 s0 (fun _ _ _ h=>by cases h) (fun m ρ' hel het=>?_) hx ⟨ρ',k1,k2,k4⟩ y_;have hout:Hz ks (w_ r e len)=.row ks true (w_ r e len):=by unfold Hz;rw[hfl]
    rw[hout];refine⟨wn_.symm,b2,fun _=>⟨rfl,by rw[wn_];simp only;omega,fun ht=>?_⟩,fun hn=>⟨(fun hf=>by cases hf),?_⟩,rfl⟩
    ·obtain⟨b8,c,T,b9,b10⟩:=b7 (by simp only at ht;omega);refine⟨b8,c,T,b9,?_⟩;simp only;have:e*L.sz+(L.tot-e)*L.sz=L.tot*L.sz:=by rw[<-Nat.add_mul];congr 1;omega
     omega
    ·rw[wn_]at hn;have:=((b4 o_).2).winOf (e0:=e) (n:=len) o_;rw[<-b2]at this;exact this.plain hfl
   ·cases h
  ·rename_i ks r hb;split at h
   ·cases h
   ·rename_i hfl;cases h;obtain⟨L,hL,hbr⟩:=hm.blk _ _ hb;obtain⟨ρ',k1,k2,_,k4⟩:=hm.killD (id:=id);obtain⟨b1,b2,b3,b4,b5,b6,b7,b8⟩:=hbr;refine main hb hL rfl b3 b1 (fun e' j=>if e'<len then L.sub (e+e') j else none) (fun e' j b h=>?_) (fun m ρ' hel het=>?_) hx ⟨ρ',k1,k2,k4⟩ (by simp[CU])
    ·split at h
     ·exact .inr ⟨_,_,h⟩
     ·cases h
    have hout:Hz ks (w_ r e len)=.deep ks (w_ r e len) none:=by unfold Hz;rw[hfl]
    rw[hout];refine⟨wn_.symm,b2,rfl,by rw[wn_];simp only;omega,fun ht=>?_,fun e' j k he hk=>?_,fun e' j b h=>?_,fun hmany e' j e2 j2 b h1 h2=>?_⟩
    ·obtain⟨b9,c,T,b10,b11⟩:=b5 (by simp only at ht;omega);refine⟨b9,c,T,b10,?_⟩;simp only;have:e*L.sz+(L.tot-e)*L.sz=L.tot*L.sz:=by rw[<-Nat.add_mul];congr 1;omega
     omega
    ·rw[wn_]at he;obtain⟨v,g1,g2⟩:=b6 (e+e') j k o_ hk;refine⟨v,?_,?_⟩
     ·rw[show(⟨L.b,L.off+e*L.sz,L.sz,L.tot-e,len,true,fun e' j=>if e'<len then L.sub (e+e') j else none⟩:Loc).off+e'*ks.length+j=L.off+(e+e')*ks.length+j by simp only[b2,Nat.add_mul];omega];exact g1
     ·simp only[he,if_true];cases k with
      |slice sub=>
       obtain⟨g3,g4,g5⟩:=g2;refine⟨g3,g4,fun hh=>?_⟩;have hR:(w_ r e len).R e' j=r.R (e+e') j:=by
        cases e with
        |zero=>rw[AE];rfl
        |succ e=>rfl
       rw[hR];exact g5 rfl
      |int k=>exact CellR.winOf g2
      |bool=>exact CellR.winOf g2
      |str=>exact CellR.winOf g2
      |other=>exact CellR.winOf g2
    ·simp only at h;split at h
     ·obtain⟨q1,q2,_,q4⟩:=b7 _ _ _ h;exact⟨by rw[wn_];assumption,q2,rfl,q4⟩
     ·cases h
    ·simp only at h1 h2;split at h1
     ·split at h2
      ·obtain⟨q1,q2⟩:=b8 hmany _ _ _ _ _ h1 h2;exact⟨o_,q2⟩
      ·cases h2
     ·cases h1
  ·cases h
 ·cases h;cases hx with
  |iface h1 h2=>exact⟨ρ,Less.refl ρ,hm,rfl,rX _,m1,ρ1,rfl,hm1,hf,AC _,fun _ _=>rfl,.iface h1 h2,hdis⟩
 ·split at h
  ·rename_i ha;cases h;have:c=x:=hx.atom1_eq ha;subst this;exact⟨ρ,Less.refl ρ,hm,rfl,c,m1,ρ1,by simp[Bj,ha],hm1,hf,AC _,fun _ _=>rfl,V.refl1 ha,hdis⟩
  ·cases h
def KH:∀(xs:List Value)(cks:List CK)(mem mem1:M_)(ρ:Map)(ds:List D)(cs:List Value),Om mem cks xs=some (ds,mem1)->MemR mem ρ B w->Vs ρ mem.length xs cs->∀(m1:M_)(ρ1:Map),MemR m1 ρ1 B w->Flat m1->Apart mem ρ m1 ρ1->
  ∃ρ',(∀i,Less ρ ρ' i)∧MemR mem1 ρ' B w∧mem1.length=mem.length∧∃vs m2 ρ2,BJ true ds m1=some (vs,m2)∧MemR m2 ρ2 B w∧Flat m2∧m1.length<=m2.length∧(∀id,id<m1.length->ρ2 id=ρ1 id)∧Vs ρ2 m2.length vs cs∧Apart mem1 ρ' m2 ρ2
 |[],cks,mem,mem1,ρ,ds,cs,h,hm,hv,m1,ρ1,hm1,hf,hdis=>by
  simp[Om]at h;obtain⟨rfl,rfl⟩:=h;rw[hv.nil_inv];exact⟨ρ,Less.refl ρ,hm,rfl,[],m1,ρ1,rfl,hm1,hf,AC _,fun _ _=>rfl,.nil,hdis⟩
 |x::xs,cks,mem,mem1,ρ,ds,cs,h,hm,hv,m1,ρ1,hm1,hf,hdis=>by
  obtain⟨c,cs',rfl,hx,hxs⟩:=hv.inv;simp only[Om]at h;split at h
  ·rename_i d mem2 hd;split at h
   ·rename_i ds' mem3 hds;cases h;obtain⟨ρa,k1,k2,k3,v,m2,ρ2,l1,l2,l3,l4,l5,l6,l7⟩:=MX hm hd hx hm1 hf hdis;obtain⟨ρb,n1,n2,n3,vs,m3,ρ3,o1,o2,o3,o4,o5,o6,o7⟩:=KH xs _ mem2 _ ρa ds' cs' hds k2 (by rw[k3];exact hxs.mono (AC _) fun id _=>k1 id) m2 ρ2 l2 l3 l7;exact⟨ρb,fun i=>(k1 i).trans (n1 i),n2,n3.trans k3,v::vs,m3,ρ3,by simp[BJ,l1,o1],o2,o3,o_,fun id hid=>(o5 id o_).trans (l5 id hid),.cons (l6.mono o4 fun id hid=>.inl (o5 id hid)) o6,o7⟩
   ·cases h
  ·cases h
def V9(hm:MemR mem ρ B w){x c:Value}{cks:List CK}{d:D}{mem1:M_}(h:resD cks mem x=some (d,mem1))(hx:V ρ mem.length x c){m1:M_}{ρ1:Map}(hm1:MemR m1 ρ1 B w)(hf:Flat m1)(hdis:Apart mem ρ m1 ρ1):
  ∃ρ',(∀i,Less ρ ρ' i)∧MemR mem1 ρ' B w∧mem1.length=mem.length∧∃v m2 ρ2,fromD true m1 d=some (v,m2)∧MemR m2 ρ2 B w∧Flat m2∧m1.length<=m2.length∧(∀id,id<m1.length->ρ2 id=ρ1 id)∧V ρ2 m2.length v c∧Apart mem1 ρ' m2 ρ2:=by
 unfold resD at h;split at h
 ·rename_i cs0;split at h
  ·rename_i ds mem2 hds;cases h;cases hx with
   |@agg _ ys h1 h2=>
    obtain⟨ρ',k1,k2,k3,vs,m2,ρ2,l1,l2,l3,l4,l5,l6,l7⟩:=KH cs0.toList _ mem _ ρ ds ys.toList hds hm ⟨by simpa using h1,fun i x c hx hc=>h2 i x c (by simpa using hx) (by simpa using hc)⟩ m1 ρ1 hm1 hf hdis;exact⟨ρ',k1,k2,k3,.agg ⟨vs⟩,m2,ρ2,by simp[fromD,l1],l2,l3,l4,l5,l6.agg,l7⟩
  ·cases h
 ·obtain⟨ρ',k1,k2,k3,v,m2,ρ2,l1,l2⟩:=MX hm h hx hm1 hf hdis;refine⟨ρ',k1,k2,k3,v,m2,ρ2,?_,l2⟩;rw[<-l1];unfold U9 at h;split at h
  ·cases h;rfl
  ·split at h
   ·split at h
    ·cases h;rfl
    ·cases h
   ·split at h
    ·cases h
    ·cases h;rfl
   ·cases h
  ·cases h;rfl
  ·split at h
   ·cases h;rfl
   ·cases h
def MR:∀(xs:List Value)(ckss:List (List CK))(mem:M_)(ρ:Map)(ds:List D)(cs:List Value),OQ mem ckss xs=some ds->MemR mem ρ B w->Vs ρ mem.length xs cs->∀(m1:M_)(ρ1:Map),MemR m1 ρ1 B w->Flat m1->Apart mem ρ m1 ρ1->
  ∃vs m2 ρ2,AU true ds m1=some (vs,m2)∧MemR m2 ρ2 B w∧m1.length<=m2.length∧(∀id,id<m1.length->ρ2 id=ρ1 id)∧Vs ρ2 m2.length vs cs
 |[],ckss,mem,ρ,ds,cs,h,hm,hv,m1,ρ1,hm1,hf,hdis=>by
  simp[OQ]at h;subst h;rw[hv.nil_inv];exact⟨[],m1,ρ1,rfl,hm1,AC _,fun _ _=>rfl,.nil⟩
 |x::xs,ckss,mem,ρ,ds,cs,h,hm,hv,m1,ρ1,hm1,hf,hdis=>by
  obtain⟨c,cs',rfl,hx,hxs⟩:=hv.inv;simp only[OQ]at h;split at h
  ·rename_i d mem2 hd;split at h
   ·rename_i ds' hds;cases h;obtain⟨ρa,k1,k2,k3,v,m2,ρ2,l1,l2,l3,l4,l5,l6,l7⟩:=V9 hm hd hx hm1 hf hdis;obtain⟨vs,m3,ρ3,o1,o2,o4,o5,o6⟩:=MR xs _ mem2 ρa ds' cs' hds k2 (by rw[k3];exact hxs.mono (AC _) fun id _=>k1 id) m2 ρ2 l2 l3 l7;exact⟨v::vs,m3,ρ3,by simp[AU,l1,o1],o2,o_,fun id hid=>(o5 id o_).trans (l5 id hid),.cons (l6.mono o4 fun id hid=>.inl (o5 id hid)) o6⟩
   ·cases h
  ·cases h
end
end Go.Ev

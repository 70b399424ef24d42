/- A part of the proof of PrintTexts. No conditions. -/
import Derived.Test.YtnljjjghpgdmoaaGreatDoorXac
import Derived.Laws.IdiomStrings
set_option linter.all false
namespace Go.Ev
open Go.RowKit
section
variable{P:Program}{mem mem':M_}{ρ ρ':Map}{B:Nat}{w w':World}
def MemR.upd(h:MemR mem ρ B w){q:Nat}{blk:Blk}{L:Loc}(hlen:mem.length<=mem'.length)(hq:mem'[q]? =some (some blk))
  (hD:∀(i:Nat)(b:Blk),i≠q->mem'[i]? =some (some b)->mem[i]? =some (some b)∧∀p e j ks r,b=.bor p e j ks r->p≠q∧mem'[p]? =mem[p]?)
  (hfoot:∀b,L.foot b->w.heap.size<=b∨∃i,Az mem ρ i b∧(i=q∨∀c,mem'[i]? ≠some (some c))) (hsz:w.heap.size<=w'.heap.size)
  (hsame:∀b,b<w.heap.size->(∀i,Az mem ρ i b->i≠q∧∃c,mem'[i]? =some (some c))->w'.heap[b]? =w.heap[b]?) (hr:∀ρ',BlkR mem' ρ' w' B L blk)
  (hless:q<mem.length->∃M o sub,ρ q=some M∧L={M with own:=o,sub:=sub}∧(o=true->M.own=true)):
  ∃ρ',MemR mem' ρ' B w'∧(∀i,i<mem.length->Less ρ ρ' i)∧ρ' q=some L:=by
 let ρn:Map:=fun i=>if i=q then some L else match mem'[i]? with|some (some _)=>ρ i|_=>none
 have nq:ρn q=some L:=by simp[ρn]
 have nold:∀i b,i≠q->mem'[i]? =some (some b)->ρn i=ρ i:=fun i b hi hb=>by simp[ρn,hi,hb]
 have ndead:∀i,i≠q->(∀b,mem'[i]? ≠some (some b))->ρn i=none:=fun i hi hb=>by
  show(if i=q then some L else match mem'[i]? with|some (some _)=>ρ i|_=>none)=none
  rw[AL hi];cases hm:mem'[i]? with
  |none=>rfl
  |some c=>
   cases c with
   |none=>rfl
   |some c=>exact absurd hm (hb c)
 have hown:∀i b,Az mem' ρn i b->(i=q∧L.foot b)∨(i≠q∧Az mem ρ i b∧∃c,mem'[i]? =some (some c)):=by
  intro i b ⟨M,c,g1,g3,g4,g2⟩;by_cases hi:i=q
  ·subst hi;rw[nq]at g1;cases g1;exact .inl ⟨rfl,g2⟩
  ·rw[nold i c hi g3]at g1;exact .inr ⟨hi,⟨M,c,g1,(hD i c hi g3).1,g4,g2⟩,c,g3⟩
 have hok:∀b,okB mem ρ w b->okB mem' ρn w' b∧w'.heap[b]? =w.heap[b]? :=by
  intro b ⟨h1,h2⟩;refine⟨⟨o_,fun i ho=>?_⟩,hsame b h1 fun i ho=>absurd ho (h2 i)⟩;rcases hown i b ho with⟨_,g⟩|⟨_,g,_⟩
  ·rcases hfoot b g with g|⟨i',g,_⟩
   ·omega
   ·exact h2 i' g
  ·exact h2 i g
 have hkeep:∀i b,i≠q->(∃c,mem'[i]? =some (some c))->Az mem ρ i b->w'.heap[b]? =w.heap[b]? :=by
  intro i b hi hc ho;refine hsame b (Df h ho) fun i' ho'=>?_;obtain rfl:=h.inj i i' b ho ho';exact⟨hi,hc⟩
 refine⟨ρn,h.step hlen (fun i hi=>?_) hok (fun i b hi=>?_) (fun i hi=>?_) (fun i j b hi hj=>?_),fun i hi=>?_,nq⟩
 ·by_cases hiq:i=q
  ·subst hiq;obtain⟨M,o,sub,g1,g2,g3⟩:=hless hi;exact .inr (.inr ⟨M,o,sub,g1,by rw[nq,g2],g3⟩)
  ·cases hm:mem'[i]? with
   |none=>exact .inr (.inl (ndead i hiq fun b hb=>by rw[hm]at hb;cases hb))
   |some c=>
    cases c with
    |none=>exact .inr (.inl (ndead i hiq fun b hb=>by rw[hm]at hb;cases hb))
    |some c=>exact .inl (nold i c hiq hm)
 ·by_cases hiq:i=q
  ·subst hiq;rw[hq]at hi;cases hi;exact .inr ⟨L,nq,hr ρn⟩
  ·obtain⟨g1,g2⟩:=hD i b hiq hi;refine .inl ⟨g1,nold i b hiq hi,fun M hM ho c hc=>hkeep i c hiq ⟨b,hi⟩ ⟨M,b,hM,g1,ho,hc⟩,fun p e j ks r hb kps rp hh Lp q1 q2=>?_⟩;obtain⟨g3,g4⟩:=g2 p e j ks r hb;have q3:=g4.trans q1;exact⟨q3,(nold p _ g3 q3).trans q2,fun ht=>hkeep p Lp.b g3 ⟨_,q3⟩ ⟨Lp,_,q2,q1,rfl,.inl ⟨ht,rfl⟩⟩⟩
 ·have hiq:i≠q:=by
   rintro rfl;exact hi blk hq
  exact ndead i hiq hi
 ·rcases hown i b hi with⟨rfl,p2⟩|⟨p1,p2,p3⟩<;>rcases hown j b hj with⟨rfl,q2⟩|⟨q1,q2,q3⟩
  ·rfl
  ·rcases hfoot b p2 with g|⟨i',g,g'⟩
   ·have:=Df h q2;omega
   ·obtain rfl:=h.inj i' j b g q2;rcases g' with rfl|g'
    ·exact absurd rfl q1
    ·obtain⟨c,hc⟩:=q3;exact absurd hc (g' c)
  ·rcases hfoot b q2 with g|⟨i',g,g'⟩
   ·have:=Df h p2;omega
   ·obtain rfl:=h.inj i' i b g p2;rcases g' with rfl|g'
    ·exact absurd rfl p1
    ·obtain⟨c,hc⟩:=p3;exact absurd hc (g' c)
  ·exact h.inj i j b p2 q2
 ·by_cases hiq:i=q
  ·subst hiq;obtain⟨M,o,sub,g1,g2,g3⟩:=hless hi;exact .inr (.inr ⟨M,o,sub,g1,by rw[nq,g2],g3⟩)
  ·cases hm:mem'[i]? with
   |none=>exact .inr (.inl (ndead i hiq fun b hb=>by rw[hm]at hb;cases hb))
   |some c=>
    cases c with
    |none=>exact .inr (.inl (ndead i hiq fun b hb=>by rw[hm]at hb;cases hb))
    |some c=>exact .inl (nold i c hiq hm)
def Fewer(mem mem':M_):Prop:=mem'.length=mem.length∧∀i:Nat,mem'[i]? =mem[i]? ∨mem'[i]? =some none∧∃ks r,mem[i]? =some (some (.row ks true r))
def Fewer.refl(mem:M_):Fewer mem mem:=⟨rfl,fun _=>.inl rfl⟩
def Fewer.trans{m1 m2 m3:M_}(h:Fewer m1 m2)(k:Fewer m2 m3):Fewer m1 m3:=⟨k.1.trans h.1,fun i=>by
 rcases k.2 i with k1|⟨k1,ks,r,k2⟩
 ·rcases h.2 i with h1|⟨h1,h2⟩
  ·exact .inl (k1.trans h1)
  ·exact .inr ⟨k1.trans h1,h2⟩
 ·rcases h.2 i with h1|⟨h1,h2⟩
  ·exact .inr ⟨k1,ks,r,h1▸k2⟩
  ·exact .inr ⟨k1,h2⟩⟩
def Fewer.get(h:Fewer mem mem'){i:Nat}{b:Blk}(hb:mem'[i]? =some (some b)):mem[i]? =some (some b):=by
 rcases h.2 i with h1|⟨h1,_⟩
 ·rw[<-h1];exact hb
 ·rw[hb]at h1;cases h1
def SameC(r r1:Row)(e j:Nat):Prop:=r1.I e j=r.I e j∧r1.B e j=r.B e j∧r1.S e j=r.S e j∧r1.R e j=r.R e j
def SameC.trans{r r1 r2:Row}{e j:Nat}(h:SameC r r1 e j)(k:SameC r1 r2 e j):SameC r r2 e j:=⟨k.1.trans h.1,k.2.1.trans h.2.1,k.2.2.1.trans h.2.2.1,k.2.2.2.trans h.2.2.2⟩
def SameC.dcell{r r1:Row}{e j:Nat}(h:SameC r r1 e j){k:CK}{hole:Bool}{ob:Option Nat}{v:Value}(hd:DCell B w k r e j hole ob v):DCell B w k r1 e j hole ob v:=by
 obtain⟨h1,h2,h3,h4⟩:=h;cases k with
 |slice sub=>exact⟨hd.1,hd.2.1,fun hh=>by rw[h4];exact hd.2.2 hh⟩
 |int k=>exact CellR.congr h1 h2 h3 h4 hd
 |bool=>exact CellR.congr h1 h2 h3 h4 hd
 |str=>exact CellR.congr h1 h2 h3 h4 hd
 |other=>exact CellR.congr h1 h2 h3 h4 hd
def I8(hm:MemR mem ρ B w){m1 m2:M_}(hf:Fewer mem m1){r r1:Row}{e j:Nat}{ck:CK}{x c:Value}(h:Lj m1 r e j ck x=some (r1,m2))(hv:V ρ mem.length x c):
  ∃ob:Option Nat,r1.n=r.n∧Fewer m1 m2∧(∀e' j',(e'≠e∨j'≠j)->SameC r r1 e' j')∧DCell B w ck r1 e j false ob c∧
   ∀b,ob=some b->(∃s,ck=.slice s)∧∃id,Az mem ρ id b∧(∃blk,m1[id]? =some (some blk))∧m2[id]? =some none:=by
 have hI:∀n e' j',(e'≠e∨j'≠j)->SameC r (r.setI e j n) e' j':=fun n e' j' hne=>⟨by simp only[Row.setI,Row.I,miss hne,cond_false],rfl,rfl,rfl⟩;have hB:∀n e' j',(e'≠e∨j'≠j)->SameC r (r.setB e j n) e' j':=fun n e' j' hne=>⟨rfl,by simp only[Row.setB,Row.B,miss hne,cond_false],rfl,rfl⟩;have hS:∀n e' j',(e'≠e∨j'≠j)->SameC r (r.setS e j n) e' j':=fun n e' j' hne=>⟨rfl,rfl,by simp only[Row.setS,Row.S,miss hne,cond_false],rfl⟩;have hR:∀n e' j',(e'≠e∨j'≠j)->SameC r (r.setR e j n) e' j':=fun n e' j' hne=>⟨rfl,rfl,rfl,by simp only[Row.setR,Row.R,miss hne,cond_false]⟩;unfold Lj at h;split at h
 ·rename_i k k' n;split at h
  ·rename_i hs;cases h;cases same_eq hs;cases hv;refine⟨none,rfl,.refl _,hI n,?_,fun b hb=>by cases hb⟩;have:(r.setI e j n).I e j=n:=by simp only[Row.setI,Row.I,hit,cond_true]
   have h2:=@CellR.int (fun _=>False) w k (r.setI e j n) e j;rw[this]at h2;exact h2
  ·cases h
 ·rename_i b;cases h;cases hv;refine⟨none,rfl,.refl _,hB b,?_,fun b hb=>by cases hb⟩;have:(r.setB e j b).B e j=b:=by simp only[Row.setB,Row.B,hit,cond_true]
  have h2:=@CellR.bool (fun _=>False) w (r.setB e j b) e j;rw[this]at h2;exact h2
 ·rename_i s;cases h;cases hv;refine⟨none,rfl,.refl _,hS s,?_,fun b hb=>by cases hb⟩;have:(r.setS e j s).S e j=s:=by simp only[Row.setS,Row.S,hit,cond_true]
  have h2:=@CellR.str (fun _=>False) w (r.setS e j s) e j;rw[this]at h2;exact h2
 ·rename_i sub;split at h
  ·rename_i hfl;cases h;cases hv;have hRn:(r.setR e j .nil).R e j=.nil:=by simp only[Row.setR,Row.R,hit,cond_true]
   exact⟨none,rfl,.refl _,hR _,⟨hfl,rfl,fun _=>⟨_,0,by rw[hRn];rfl,by rw[hRn];exact AC _,.inl ⟨rfl,rfl⟩⟩⟩,fun b hb=>by cases hb⟩
  ·cases h
 ·rename_i sub id e' len;split at h
  ·rename_i ks s hb;split at h
   ·rename_i hk;rw[A2]at hk;cases CS hk.1;cases h;have hb0:=hf.get hb;obtain⟨L,hL,hbr⟩:=hm.blk _ _ hb0;obtain⟨b1,b2,b3,b4,b0⟩:=hbr;obtain⟨b5,b6,b7⟩:=b3 rfl;have hRn:(r.setR e j (w_ s e' len)).R e j=w_ s e' len:=by simp only[Row.setR,Row.R,hit,cond_true]
    have hlt:id<m1.length:=(A0.1 hb).1;have hfew:Fewer m1 (m1.set id none):=⟨y_,fun i=>by
     by_cases hi:i=id
     ·subst hi;exact .inr ⟨by rw[List.getElem?_set_self hlt],_,_,hb⟩
     ·exact .inl (List.getElem?_set_ne fun h=>hi h.symm)⟩
    cases hv with
    |sliceDead h1 h2=>exact absurd h2 (BX hm hb0)
    |@slice _ _ _ M a cap h1 h2 h3 h4 h5 h6=>
     rw[hL]at h2;cases h2;obtain⟨h7,h8⟩:=h6 b5;refine⟨if cap=0 then none else some L.b,rfl,hfew,hR _,⟨hk.2,rfl,fun _=>⟨a,cap,by rw[hRn,wn_],by rw[hRn,wn_];exact h4,?_⟩⟩,fun b hob=>?_⟩
     ·by_cases hc:cap=0
      ·exact .inl ⟨hc,AM hc⟩
      ·rw[AL hc];have ha:a=some (L.adr e' 0):=by
        rcases h8 with h8|h8
        ·exact absurd h8 hc
        ·exact h8
       obtain⟨b8,c,T,b9,b10⟩:=b7 o_;have htot:e'*L.sz+cap*L.sz<=L.tot*L.sz:=by rw[<-Nat.add_mul];exact AH _ h7
       refine .inr ⟨L.b,L.off+e'*L.sz,c,T,rfl,ha,b8,b9,by rw[<-b2];omega,?_⟩;rw[hRn];rcases Nat.eq_zero_or_pos len with h0|h0
       ·subst h0;exact .mk (fun _ _=>undef) (fun e j k he=>by rw[wn_]at he;omega) (fun e j k he=>by rw[wn_]at he;omega)
       ·have:=((b4 o_).2).winOf (e0:=e') (n:=len) o_;rw[<-b2]at this;exact this.plain hk.2
     ·split at hob
      ·cases hob
      ·rename_i hc;cases hob;exact⟨⟨_,rfl⟩,id,⟨L,_,hL,hb0,rfl,.inl ⟨o_,rfl⟩⟩,⟨_,hb⟩,by rw[List.getElem?_set_self hlt]⟩
   ·cases h
  ·cases h
 ·cases h
def E8(hm:MemR mem ρ B w){e:Nat}:∀(xs:List Value)(m1 m2:M_)(r r1:Row)(j:Nat)(ks:List CK)(cs:List Value),Fewer mem m1->Fb m1 r e j ks xs=some (r1,m2)->cs.length=xs.length->
  (∀(i:Nat)(x c:Value),xs[i]? =some x->cs[i]? =some c->V ρ mem.length x c)->
  ∃ob:Nat->Option Nat,r1.n=r.n∧xs.length<=ks.length∧Fewer m1 m2∧(∀e' j',(e'≠e∨j'<j∨j+xs.length<=j')->SameC r r1 e' j')∧
   (∀(i:Nat)(k:CK)(c:Value),ks[i]? =some k->cs[i]? =some c->DCell B w k r1 e (j+i) false (ob i) c)∧
   (∀i b,ob i=some b->i<xs.length∧(∃s,ks[i]? =some (.slice s))∧∃id,Az mem ρ id b∧(∃blk,m1[id]? =some (some blk))∧m2[id]? =some none)∧
   ∀i i' b,ob i=some b->ob i'=some b->i=i'
 |[],m1,m2,r,r1,j,ks,cs,hf,h,hl,hv=>by
  have:r=r1∧m1=m2:=by
   cases ks<;>simp[Fb]at h<;>exact h
  obtain⟨rfl,rfl⟩:=this;have hcs:cs=[]:=by simpa using hl
  subst hcs;exact⟨fun _=>none,rfl,y_,.refl _,fun _ _ _=>⟨rfl,rfl,rfl,rfl⟩,fun i k c _ hc=>by simp at hc,(fun i b hb=>by cases hb),(fun i i' b hb=>by cases hb)⟩
 |x::xs,m1,m2,r,r1,j,[],cs,hf,h,hl,hv=>by simp[Fb]at h
 |x::xs,m1,m2,r,r1,j,ck::ks,[],hf,h,hl,hv=>by simp at hl
 |x::xs,m1,m2,r,r1,j,ck::ks,c::cs,hf,h,hl,hv=>by
  simp only[Fb]at h;split at h
  ·rename_i r2 m3 h1;obtain⟨o0,g1,g2,g3,g4,g5⟩:=I8 hm hf h1 (hv 0 x c rfl rfl);obtain⟨ob,k1,k2,k3,k4,k5,k6,k7⟩:=E8 hm xs m3 m2 r2 r1 (j+1) ks cs (hf.trans g2) h (by simpa using hl) (fun i x' c' hx hc=>hv (i+1) x' c' (by simpa using hx) (by simpa using hc));refine⟨fun i=>match i with|0=>o0|i+1=>ob i,k1.trans g1,by simpa using k2,g2.trans k3,fun e' j' hne=>?_,fun i k c' hk hc=>?_,fun i b hb=>?_,fun i i' b hb hb'=>?_⟩
   ·refine(g3 e' j' ?_).trans (k4 e' j' ?_)
    ·rcases hne with h0|h0|h0
     ·exact .inl h0
     ·exact .inr o_
     ·exact .inr (by simp at h0;omega)
    ·rcases hne with h0|h0|h0
     ·exact .inl h0
     ·exact .inr (.inl o_)
     ·exact .inr (.inr (by simp at h0;omega))
   ·cases i with
    |zero=>
     simp at hk hc;subst hk;subst hc;exact(k4 e j (.inr (.inl o_))).dcell g4
    |succ i=>
     simp at hk hc;have:=k5 i k c' hk hc;rw[show j+(i+1)=j+1+i by omega];exact this
   ·cases i with
    |zero=>
     obtain⟨⟨s,hs⟩,id,q1,q2,q3⟩:=g5 b hb;refine⟨y_,⟨s,by simp[hs]⟩,id,q1,q2,?_⟩;rcases k3.2 id with q4|⟨q4,_⟩
     ·rw[q4];exact q3
     ·exact q4
    |succ i=>
     obtain⟨q0,⟨s,hs⟩,id,q1,⟨blk,q2⟩,q3⟩:=k6 i b hb;exact⟨z_,⟨s,by simpa using hs⟩,id,q1,⟨blk,g2.get q2⟩,q3⟩
   ·cases i with
    |zero=>
     cases i' with
     |zero=>rfl
     |succ i'=>
      exfalso;obtain⟨_,id,q1,_,q3⟩:=g5 b hb;obtain⟨_,_,id',p1,⟨blk,p2⟩,_⟩:=k6 i' b hb';obtain rfl:=hm.inj id id' b q1 p1;rw[q3]at p2;cases p2
    |succ i=>
     cases i' with
     |zero=>
      exfalso;obtain⟨_,id,q1,_,q3⟩:=g5 b hb';obtain⟨_,_,id',p1,⟨blk,p2⟩,_⟩:=k6 i b hb;obtain rfl:=hm.inj id id' b q1 p1;rw[q3]at p2;cases p2
     |succ i'=>rw[k7 i i' b hb hb']
  ·cases h
def Fewer.deep(h:Fewer mem mem'){p:Nat}{ks:List CK}{r:Row}{hh:Option (Nat×Nat)}(hp:mem[p]? =some (some (.deep ks r hh))):mem'[p]? =mem[p]? :=by
 rcases h.2 p with h1|⟨_,ks',r',h2⟩
 ·exact h1
 ·rw[hp]at h2;cases h2
def MemR.newDeep(hm:MemR mem ρ B w)(hB:B<=w.heap.size){m1:M_}(hf:Fewer mem m1){ks:List CK}{r:Row}{c:Array Value}{T:TypeId}{tot:Nat}{sub:Nat->Nat->Option Nat}(hc:tot*ks.length<=c.size)(hn:r.n<=tot)
  (v:Nat->Nat->Value) (h1:∀e j k,e<r.n->ks[j]? =some k->c[e*ks.length+j]? =some (v e j)) (h2:∀e j k,e<r.n->ks[j]? =some k->DCell B w k r e j false (sub e j) (v e j))
  (h3:∀e j b,sub e j=some b->e<r.n∧(∃s,ks[j]? =some (.slice s))∧∃id,Az mem ρ id b∧m1[id]? =some none) (h4:GV ks=false->∀e j e' j' b,sub e j=some b->sub e' j'=some b->e=e'∧j=j'):
  ∃ρ',MemR (m1++[some (.deep ks r none)]) ρ' B (w.alloc (.cells c T))∧(∀i,i<mem.length->Less ρ ρ' i)∧ρ' mem.length=some ⟨w.heap.size,0,ks.length,tot,r.n,true,sub⟩:=by
 have hg:(w.alloc (.cells c T)).heap[w.heap.size]? =some (.cells c T (0,0)):=by
  show(w.heap.push _)[w.heap.size]? =_;simp
 have hold:∀b,b<w.heap.size->(w.alloc (.cells c T)).heap[b]? =w.heap[b]? :=fun b hb=>by
  show(w.heap.push _)[b]? =_;rw[Array.getElem?_push];rw[AL o_]
 have hsz:(w.alloc (.cells c T)).heap.size=w.heap.size+1:=by
  show(w.heap.push _).size=_;simp
 refine hm.upd (q:=mem.length) (blk:=.deep ks r none) (by simp[hf.1]) (by rw[List.getElem?_append_right (by rw[hf.1];exact AC _),hf.1];simp) (fun i b hi hb=>?_) (fun b hb=>?_) o_ (fun b hb _=>hold b hb) (fun ρ'=>?_) (fun h=>absurd h (Nat.lt_irrefl _))
 ·rcases BN hb with⟨g1,g2⟩|⟨g1,_⟩
  ·have g3:=hf.get g1;refine⟨g3,fun p e j ks' r' hbr=>?_⟩;subst hbr;obtain⟨L,_,hr⟩:=hm.blk i _ g3;obtain⟨_,_,_,_,_,Lp,kps,rp,hh,a,q1,_⟩:=hr;have hp:p<mem.length:=(A0.1 q1).1;exact⟨o_,by rw[AQ (by rw[hf.1];exact hp)];exact hf.deep q1⟩
  ·rw[hf.1]at g1;exact absurd g1 hi
 ·rcases hb with⟨_,rfl⟩|⟨e,j,hb⟩
  ·exact .inl (AC _)
  ·obtain⟨_,_,id,g1,g2⟩:=h3 e j b hb;refine .inr ⟨id,g1,.inr fun c hcb=>?_⟩;rw[AQ (A0.1 g2).1,g2]at hcb;cases hcb
 ·refine⟨rfl,rfl,rfl,hn,fun _=>⟨hB,c,T,hg,by simpa using hc⟩,fun e j k he hk=>⟨v e j,?_,?_⟩,fun e j b hb=>?_,h4⟩
  ·have:=h1 e j k he hk;simp only[World.cell?,hg,Option.isSome_none,Bool.false_eq_true,if_false,AE];exact this
  ·refine(h2 e j k he hk).mono fun b hb=>hold b ?_;obtain⟨_,_,id,g1,_⟩:=h3 e j b hb;exact Df hm g1
  ·obtain⟨g1,g2,id,g3,_⟩:=h3 e j b hb;have:=Df hm g3;exact⟨g1,g2,rfl,by simp only;omega⟩
def V.newDeep{n:Nat}{ks:List CK}{w:World}{tot cap N:Nat}{sub:Nat->Nat->Option Nat}{id:Nat}(hρ:ρ id=some ⟨w.heap.size,0,ks.length,tot,n,true,sub⟩)(hN:id<N)(hn:n<=cap)(ht:cap<=tot):V ρ N (.slice (some ⟨id,0,some 0⟩) n 0) (.slice (some ⟨w.heap.size,0,none⟩) n cap):=
 .slice (L:=⟨w.heap.size,0,ks.length,tot,n,true,sub⟩) hN hρ y_ hn (fun _=>by simp[Loc.adr]) (fun _=>⟨by simpa using ht,.inr (by simp[Loc.adr])⟩)
def QF:∀{ks:List CK}{vs:List Value},BR ks vs=true->∀(j:Nat)(s:List CK),ks[j]? =some (.slice s)->vs[j]? =some (.slice none 0 0)
 |[],_,_,j,s,h=>by simp at h
 |ck::ks,[],h,_,_,_=>by cases ck<;>simp[BR]at h
 |ck::ks,v::vs,h,j,s,hk=>by
  cases j with
  |zero=>
   simp at hk;subst hk;unfold BR at h;split at h
   ·rename_i heq1 heq2;cases heq1
   ·rename_i heq1 heq2;cases heq1
   ·rename_i heq1 heq2;cases heq1
   ·rename_i heq1 heq2;cases heq1
   ·rename_i heq1 heq2;cases heq2;rfl
   ·cases h
  |succ j=>
   have h':BR ks vs=true:=by
    unfold BR at h;split at h
    ·rename_i heq1 heq2;cases heq1
    ·rename_i heq1 heq2;cases heq1;cases heq2;simp only[A2]at h;exact h.2
    ·rename_i heq1 heq2;cases heq1;cases heq2;exact h
    ·rename_i heq1 heq2;cases heq1;cases heq2;simp only[A2]at h;exact h.2
    ·rename_i heq1 heq2;cases heq1;cases heq2;exact h
    ·cases h
   simpa using QF h' j s (by simpa using hk)
def Q5:∀{ks:List CK},Ic ks=true->∀(j:Nat)(s:List CK),ks[j]? =some (.slice s)->flat s=true
 |[],_,j,s,h=>by simp at h
 |k::ks,hd,0,s,h=>by
  simp at h;subst h;simp only[Ic,A2]at hd;exact hd.1
 |k::ks,hd,j+1,s,h=>by
  have hd':Ic ks=true:=by
   cases k with
   |slice t=>simp only[Ic,A2]at hd;exact hd.2
   |other=>simp[Ic]at hd
   |int _=>exact hd
   |bool=>exact hd
   |str=>exact hd
  exact Q5 hd' j s (by simpa using h)
def PL(h:MemR mem ρ B w)(hB:B<=w.heap.size){t el:TypeId}{ei:TypeInfo}{z:Value}(ht:P.underlying t=some (.slice el))(hi:P.info? el=some ei)(hz:ei.zero=some z){ks:List CK}(hsz:ei.size=ks.length)(hzo:BR ks (Bc z)=true)
  (hbytes:ei.bytes<=1000) (hdk:Ic ks=true) (kl kc:IntKind) {l c:Int} (h0:0<=l) (hlc:l<=c) (hc:c<=100000000000):
  ∃ρ' cv w',(Instr.makeSlice t (.int kl l) (.int kc c)).run P w=.ok cv w'∧MemR (mem++[some (.deep ks (Row.zeros l.toNat) none)]) ρ' B w'∧(∀i,i<mem.length->Less ρ ρ' i)∧V ρ' (mem.length+1) (sl0 l.toNat mem.length) cv∧
   ∀W0:World,W0.heap.size<=w.heap.size->Below W0.heap.size W0 w->Below W0.heap.size W0 w':=by
 have hrun:=run_make (P:=P) w t el ei z ht hi hz kl kc l c h0 hlc (by
  have h1:(ei.bytes:Int)*c<=1000*c:=Int.mul_le_mul_of_nonneg_right o_ o_;omega) o_
 obtain⟨g1,g2⟩:=DC hzo;have hzs:z.cells.size=ks.length:=by rw[<-g1,<-Bi];simp
 have hcell:∀(j:Nat)(k:CK),ks[j]? =some k->∃v,z.cells[j]? =some v∧∀(w:World)(n e:Nat),DCell B w k (Row.zeros n) e j false none v:=by
  intro j k hk;obtain⟨v,hv,hc⟩:=g2 j k hk;rw[<-Bi]at hv;refine⟨v,by simpa using hv,fun w n e=>?_⟩;cases k with
  |slice s=>
   have h5:=QF hzo j s hk;rw[<-Bi,hv]at h5;cases h5;exact⟨Q5 hdk j s hk,rfl,fun _=>⟨none,0,rfl,AC _,.inl ⟨rfl,rfl⟩⟩⟩
  |int k=>exact hc (fun _=>False) w n e j
  |bool=>exact hc (fun _=>False) w n e j
  |str=>exact hc (fun _=>False) w n e j
  |other=>exact hc (fun _=>False) w n e j
 obtain⟨ρ',k1,k2,k3⟩:=h.newDeep hB (.refl mem) (ks:=ks) (r:=Row.zeros l.toNat) (c:=madeCells z.cells (c.toNat*ei.size)) (T:=el) (tot:=c.toNat) (sub:=s0) (by rw[size_madeCells,hsz];exact AC _) (show l.toNat<=c.toNat by omega) (fun _ j=>z.cells.getD j undef) (fun e j k he hk=>by
   obtain⟨v,hv,_⟩:=hcell j k hk;have hj:j<ks.length:=(A0.1 hk).1;rw[hsz];have he':e<l.toNat:=he;rw[Gy hzs (show e<c.toNat by omega) hj hv,Array.getD_eq_getD_getElem?,hv,Option.getD_some]) (fun e j k he hk=>by
   obtain⟨v,hv,hcr⟩:=hcell j k hk;have:z.cells.getD j undef=v:=by rw[Array.getD_eq_getD_getElem?,hv,Option.getD_some]
   rw[this];exact hcr _ _ _) (fun e j b hb=>by cases hb) (fun _ e j e' j' b hb=>by cases hb)
 exact⟨ρ',_,_,hrun,k1,k2,V.newDeep (w:=w) k3 o_ o_ (AC _),fun W0 hW hb=>D9 hW hb _⟩
def JM(hm:MemR mem ρ B w){ks:List CK}{n:Nat}{cells ccs:List Value}(hcl:cells.length=n*ks.length)(hcc:ccs.length=cells.length)(hv:∀(i:Nat)(x c:Value),cells[i]? =some x->ccs[i]? =some c->V ρ mem.length x c):∀(m:Nat)(m1 m2:M_)(r r1:Row),Fewer mem m1->LG m1 ks n cells m r=some (r1,m2)->m<=n->
  ∃sub:Nat->Nat->Option Nat,r1.n=r.n∧Fewer m1 m2∧(∀e j,e<n-m->SameC r r1 e j)∧
   (∀(e j:Nat)(k:CK)(c:Value),n-m<=e->e<n->ks[j]? =some k->ccs[e*ks.length+j]? =some c->DCell B w k r1 e j false (sub e j) c)∧
   (∀e j b,sub e j=some b->n-m<=e∧e<n∧(∃s,ks[j]? =some (.slice s))∧∃id,Az mem ρ id b∧(∃blk,m1[id]? =some (some blk))∧m2[id]? =some none)∧
   ∀e j e' j' b,sub e j=some b->sub e' j'=some b->e=e'∧j=j'
 |0,m1,m2,r,r1,hf,h,hmn=>by
  simp[LG]at h;obtain⟨rfl,rfl⟩:=h;exact⟨fun _ _=>none,rfl,.refl _,fun _ _ _=>⟨rfl,rfl,rfl,rfl⟩,fun e j k c h1 h2=>o_,(fun e j b hb=>by cases hb),(fun e j e' j' b hb=>by cases hb)⟩
 |m+1,m1,m2,r,r1,hf,h,hmn=>by
  simp only[LG]at h;split at h
  ·rename_i r2 m3 h1;have hrow:(n-(m+1))*ks.length+ks.length<=n*ks.length:=by
    have:(n-(m+1)+1)*ks.length<=n*ks.length:=AH _ o_
    rwa [Nat.add_mul,Nat.one_mul]at this
   obtain⟨ob,g1,g2,g3,g4,g5,g6,g7⟩:=E8 hm _ m1 m3 r r2 0 ks ((ccs.drop ((n-(m+1))*ks.length)).take ks.length) hf h1 z_ (fun i x c hx hc=>hv _ x c (Dx hx).2 (Dx hc).2);obtain⟨sub,k1,k3,k4,k5,k6,k7⟩:=JM hm hcl hcc hv m m3 m2 r2 r1 (hf.trans g3) h o_;refine⟨fun e j=>if e=n-(m+1)then ob j else sub e j,k1.trans g1,g3.trans k3,fun e j he=>(g4 e j (.inl o_)).trans (k4 e j o_),fun e j k c he1 he2 hk hc=>?_,fun e j b hb=>?_,fun e j e' j' b hb hb'=>?_⟩
   ·by_cases hee:e=n-(m+1)
    ·subst hee;have hj:j<ks.length:=(A0.1 hk).1;have:=g5 j k c hk (by rw[List.getElem?_take,AM hj,List.getElem?_drop];exact hc);rw[AE]at this;simp only[if_true];exact(k4 _ j o_).dcell this
    ·simp only[hee,if_false];exact k5 e j k c o_ he2 hk hc
   ·simp only at hb;split at hb
    ·rename_i hee;obtain⟨_,q1,id,q2,q3,q4⟩:=g6 j b hb;refine⟨o_,o_,q1,id,q2,q3,?_⟩;rcases k3.2 id with q5|⟨q5,_⟩
     ·rw[q5];exact q4
     ·exact q5
    ·obtain⟨q0,q1,q2,id,q3,⟨blk,q4⟩,q5⟩:=k6 e j b hb;exact⟨o_,q1,q2,id,q3,⟨blk,g3.get q4⟩,q5⟩
   ·simp only at hb hb';split at hb
    ·rename_i hee;split at hb'
     ·rename_i hee';exact⟨o_,g7 j j' b hb hb'⟩
     ·exfalso;obtain⟨_,_,id,q1,_,q3⟩:=g6 j b hb;obtain⟨_,_,_,id',p1,⟨blk,p2⟩,_⟩:=k6 e' j' b hb';obtain rfl:=hm.inj id id' b q1 p1;rw[q3]at p2;cases p2
    ·split at hb'
     ·exfalso;obtain⟨_,_,id,q1,_,q3⟩:=g6 j' b hb';obtain⟨_,_,_,id',p1,⟨blk,p2⟩,_⟩:=k6 e j b hb;obtain rfl:=hm.inj id id' b q1 p1;rw[q3]at p2;cases p2
     ·exact k7 e j e' j' b hb hb'
  ·cases h
def QT:∀(a b:M_),a.length=b.length->(MH a b).length=a.length
 |[],b,_=>by cases b<;>rfl
 |x::a,[],h=>by simp at h
 |x::a,y::b,h=>by simp only[MH,List.length_cons];rw[QT a b (by simpa using h)]
def MB:∀(a b:M_)(i:Nat),a.length=b.length->(MH a b)[i]? =match b[i]? with|some none=>some none|_=>a[i]?
 |[],b,i,h=>by
  have:b=[]:=by simpa using h.symm
  subst this;rfl
 |x::a,[],i,h=>by simp at h
 |x::a,y::b,0,h=>by
  cases y<;>rfl
 |x::a,y::b,i+1,h=>MB a b i (by simpa using h)
def Fewer.meet{mem m m1:M_}(h:Fewer mem m)(k:Fewer mem m1):Fewer m (MH m m1):=by
 have hl:m.length=m1.length:=h.1.trans k.1.symm;refine⟨QT _ _ hl,fun i=>?_⟩;rw[MB _ _ _ hl];rcases k.2 i with h1|⟨h1,ks,r,h2⟩
 ·cases hc:mem[i]? with
  |none=>rw[hc]at h1;rw[h1];exact .inl rfl
  |some c=>
   rw[hc]at h1;rw[h1];cases c with
   |none=>
    rcases h.2 i with h3|⟨h3,ks,r,h4⟩
    ·left;rw[h3,hc]
    ·rw[hc]at h4;cases h4
   |some c=>exact .inl rfl
 ·rw[h1];rcases h.2 i with h3|⟨h3,_⟩
  ·exact .inr ⟨rfl,ks,r,h3.trans h2⟩
  ·exact .inl h3.symm
def aI{mem m m1:M_}(h:Fewer mem m)(k:Fewer mem m1){i:Nat}(h1:m1[i]? =some none):(MH m m1)[i]? =some none:=by
 rw[MB _ _ _ (h.1.trans k.1.symm),h1]
def J8(hm:MemR mem ρ B w){e:Nat}:∀(xs:List Value)(m1 m2:M_)(r r1:Row)(j:Nat)(ks:List CK)(cs:List Value),Fewer mem m1->Jh mem m1 r e j ks xs=some (r1,m2)->cs.length=xs.length->
  (∀(i:Nat)(x c:Value),xs[i]? =some x->cs[i]? =some c->V ρ mem.length x c)->
  ∃ob:Nat->Option Nat,r1.n=r.n∧xs.length<=ks.length∧Fewer m1 m2∧(∀e' j',(e'≠e∨j'<j∨j+xs.length<=j')->SameC r r1 e' j')∧
   (∀(i:Nat)(k:CK)(c:Value),ks[i]? =some k->cs[i]? =some c->DCell B w k r1 e (j+i) false (ob i) c)∧
   (∀i b,ob i=some b->i<xs.length∧(∃s,ks[i]? =some (.slice s))∧∃id,Az mem ρ id b∧m2[id]? =some none)
 |[],m1,m2,r,r1,j,ks,cs,hf,h,hl,hv=>by
  have:r=r1∧m1=m2:=by
   cases ks<;>simp[Jh]at h<;>exact h
  obtain⟨rfl,rfl⟩:=this;have hcs:cs=[]:=by simpa using hl
  subst hcs;exact⟨fun _=>none,rfl,y_,.refl _,fun _ _ _=>⟨rfl,rfl,rfl,rfl⟩,fun i k c _ hc=>by simp at hc,(fun i b hb=>by cases hb)⟩
 |x::xs,m1,m2,r,r1,j,[],cs,hf,h,hl,hv=>by simp[Jh]at h
 |x::xs,m1,m2,r,r1,j,ck::ks,[],hf,h,hl,hv=>by simp at hl
 |x::xs,m1,m2,r,r1,j,ck::ks,c::cs,hf,h,hl,hv=>by
  simp only[Jh]at h;split at h
  ·rename_i r2 m3 h1;obtain⟨o0,g1,g2,g3,g4,g5⟩:=I8 hm (.refl mem) h1 (hv 0 x c rfl rfl);have hmt:=hf.meet g2;obtain⟨ob,k1,k2,k3,k4,k5,k6⟩:=J8 hm xs (MH m1 m3) m2 r2 r1 (j+1) ks cs (hf.trans hmt) h (by simpa using hl) (fun i x' c' hx hc=>hv (i+1) x' c' (by simpa using hx) (by simpa using hc));refine⟨fun i=>match i with|0=>o0|i+1=>ob i,k1.trans g1,by simpa using k2,hmt.trans k3,fun e' j' hne=>?_,fun i k c' hk hc=>?_,fun i b hb=>?_⟩
   ·refine(g3 e' j' ?_).trans (k4 e' j' ?_)
    ·rcases hne with h0|h0|h0
     ·exact .inl h0
     ·exact .inr o_
     ·exact .inr (by simp at h0;omega)
    ·rcases hne with h0|h0|h0
     ·exact .inl h0
     ·exact .inr (.inl o_)
     ·exact .inr (.inr (by simp at h0;omega))
   ·cases i with
    |zero=>
     simp at hk hc;subst hk;subst hc;exact(k4 e j (.inr (.inl o_))).dcell g4
    |succ i=>
     simp at hk hc;have:=k5 i k c' hk hc;rw[show j+(i+1)=j+1+i by omega];exact this
   ·cases i with
    |zero=>
     obtain⟨⟨s,hs⟩,id,q1,q2,q3⟩:=g5 b hb;refine⟨y_,⟨s,by simp[hs]⟩,id,q1,?_⟩;have q4:=aI hf g2 q3;rcases k3.2 id with q5|⟨q5,_⟩
     ·rw[q5];exact q4
     ·exact q5
    |succ i=>
     obtain⟨q0,⟨s,hs⟩,id,q1,q3⟩:=k6 i b hb;exact⟨z_,⟨s,by simpa using hs⟩,id,q1,q3⟩
  ·cases h
def KE(hm:MemR mem ρ B w){ks:List CK}{n:Nat}{cells ccs:List Value}(hcl:cells.length=n*ks.length)(hcc:ccs.length=cells.length)(hv:∀(i:Nat)(x c:Value),cells[i]? =some x->ccs[i]? =some c->V ρ mem.length x c):∀(m:Nat)(m1 m2:M_)(r r1:Row),Fewer mem m1->OM mem m1 ks n cells m r=some (r1,m2)->m<=n->
  ∃sub:Nat->Nat->Option Nat,r1.n=r.n∧Fewer m1 m2∧(∀e j,e<n-m->SameC r r1 e j)∧
   (∀(e j:Nat)(k:CK)(c:Value),n-m<=e->e<n->ks[j]? =some k->ccs[e*ks.length+j]? =some c->DCell B w k r1 e j false (sub e j) c)∧
   (∀e j b,sub e j=some b->n-m<=e∧e<n∧(∃s,ks[j]? =some (.slice s))∧∃id,Az mem ρ id b∧m2[id]? =some none)
 |0,m1,m2,r,r1,hf,h,hmn=>by
  simp[OM]at h;obtain⟨rfl,rfl⟩:=h;exact⟨fun _ _=>none,rfl,.refl _,fun _ _ _=>⟨rfl,rfl,rfl,rfl⟩,fun e j k c h1 h2=>o_,(fun e j b hb=>by cases hb)⟩
 |m+1,m1,m2,r,r1,hf,h,hmn=>by
  simp only[OM]at h;split at h
  ·rename_i r2 m3 h1;have hrow:(n-(m+1))*ks.length+ks.length<=n*ks.length:=by
    have:(n-(m+1)+1)*ks.length<=n*ks.length:=AH _ o_
    rwa [Nat.add_mul,Nat.one_mul]at this
   obtain⟨ob,g1,g2,g3,g4,g5,g6⟩:=J8 hm _ m1 m3 r r2 0 ks ((ccs.drop ((n-(m+1))*ks.length)).take ks.length) hf h1 z_ (fun i x c hx hc=>hv _ x c (Dx hx).2 (Dx hc).2);obtain⟨sub,k1,k3,k4,k5,k6⟩:=KE hm hcl hcc hv m m3 m2 r2 r1 (hf.trans g3) h o_;refine⟨fun e j=>if e=n-(m+1)then ob j else sub e j,k1.trans g1,g3.trans k3,fun e j he=>(g4 e j (.inl o_)).trans (k4 e j o_),fun e j k c he1 he2 hk hc=>?_,fun e j b hb=>?_⟩
   ·by_cases hee:e=n-(m+1)
    ·subst hee;have hj:j<ks.length:=(A0.1 hk).1;have:=g5 j k c hk (by rw[List.getElem?_take,AM hj,List.getElem?_drop];exact hc);rw[AE]at this;simp only[if_true];exact(k4 _ j o_).dcell this
    ·simp only[hee,if_false];exact k5 e j k c o_ he2 hk hc
   ·simp only at hb;split at hb
    ·rename_i hee;obtain⟨_,q1,id,q2,q4⟩:=g6 j b hb;refine⟨o_,o_,q1,id,q2,?_⟩;rcases k3.2 id with q5|⟨q5,_⟩
     ·rw[q5];exact q4
     ·exact q5
    ·obtain⟨q0,q1,q2,id,q3,q5⟩:=k6 e j b hb;exact⟨o_,q1,q2,id,q3,q5⟩
  ·cases h
def Wy(hm:MemR mem ρ B w){ks:List CK}{n:Nat}{cells ccs:List Value}(hcl:cells.length=n*ks.length)(hcc:ccs.length=cells.length)(hv:∀(i:Nat)(x c:Value),cells[i]? =some x->ccs[i]? =some c->V ρ mem.length x c)(m2:M_)(r1:Row)(h:Al6 mem ks n cells=some (r1,m2)):
  ∃sub:Nat->Nat->Option Nat,r1.n=n∧Fewer mem m2∧
   (∀(e j:Nat)(k:CK)(c:Value),e<n->ks[j]? =some k->ccs[e*ks.length+j]? =some c->DCell B w k r1 e j false (sub e j) c)∧
   (∀e j b,sub e j=some b->e<n∧(∃s,ks[j]? =some (.slice s))∧∃id,Az mem ρ id b∧m2[id]? =some none)∧
   (GV ks=false->∀e j e' j' b,sub e j=some b->sub e' j'=some b->e=e'∧j=j'):=by
 unfold Al6 at h;split at h
 ·rename_i hmany;obtain⟨sub,k1,k3,_,k5,k6⟩:=KE hm hcl hcc hv n mem m2 _ r1 (.refl _) h (AC _);exact⟨sub,k1,k3,fun e j k c he hk hc=>k5 e j k c o_ he hk hc,fun e j b hb=>(k6 e j b hb).2,fun h=>by rw[hmany]at h;cases h⟩
 ·obtain⟨sub,k1,k3,_,k5,k6,k7⟩:=JM hm hcl hcc hv n mem m2 _ r1 (.refl _) h (AC _);refine⟨sub,k1,k3,fun e j k c he hk hc=>k5 e j k c o_ he hk hc,fun e j b hb=>?_,fun _=>k7⟩;obtain⟨_,q1,q2,id,q3,_,q4⟩:=k6 e j b hb;exact⟨q1,q2,id,q3,q4⟩
def Dk(p:Nat)(m:M_):(CU p m).length=m.length:=by simp[CU]
def VL{p i:Nat}{m:M_}(h:m[i]? =some none):(CU p m)[i]? =some none:=by
 unfold CU;rw[List.getElem?_map,h];rfl
def Zl(hm:MemR mem ρ B w){id e j:Nat}{ks:List CK}{r r1:Row}{h:Option (Nat×Nat)}{xs cs:List Value}{mem1:M_}{L:Loc}(hb:mem[id]? =some (some (.deep ks r h)))(hL:ρ id=some L)(he:e<r.n)(hset:Fb mem r e j (ks.drop j) xs=some (r1,mem1))(hl:cs.length=xs.length)
  (hv:∀(i:Nat)(x c:Value),xs[i]? =some x->cs[i]? =some c->V ρ mem.length x c) (hpos:0<xs.length) (hmany:GV ks=false) (hh:∀e' j',Ej h e' j'=true->e'=e∧j<=j'∧j'<j+xs.length):
  ∃c T,B<=L.b∧w.heap[L.b]? =some (.cells c T (0,0))∧L.off+e*L.sz+j+cs.length<=c.size∧
   ∃ρ',MemR ((CU id mem1).set id (some (.deep ks r1 none))) ρ' B (w.setCells L.b (L.off+e*L.sz+j) cs)∧(∀i,i<mem.length->Less ρ ρ' i):=by
 obtain⟨M,hM,hbr⟩:=hm.blk _ _ hb;rw[hL]at hM;cases hM;obtain⟨b1,b2,b3,b4,b5,b6,b7,b8⟩:=hbr;replace b8:=b8 hmany;have htot:0<L.tot:=o_;obtain⟨b9,c,T,b10,b11⟩:=b5 htot;obtain⟨ob,s1,s2,s3,s4,s5,s6,s7⟩:=E8 hm xs mem mem1 r r1 j (ks.drop j) cs (.refl mem) hset hl hv;simp only[List.length_drop]at s2;have hrow:e*L.sz+L.sz<=L.tot*L.sz:=by
  have:(e+1)*L.sz<=L.tot*L.sz:=AH _ o_
  rwa [Nat.add_mul,Nat.one_mul]at this
 have hfit:L.off+e*L.sz+j+cs.length<=c.size:=o_;obtain⟨c',q1,q2,q3,q4,q5⟩:=CQ cs (L.off+e*L.sz+j) w c b10 hfit;have hid1:mem1[id]? =some (some (.deep ks r h)):=(s3.deep hb).trans hb;have hlt:id<mem.length:=(A0.1 hb).1;have hOid:∀b,L.foot b->Az mem ρ id b:=fun b hb'=>⟨L,_,hL,hb,rfl,hb'⟩;have hne0:∀id',mem1[id']? =some none->id'≠id:=by
  rintro id' h0 rfl;rw[hid1]at h0;cases h0
 let L':Loc:={L with sub:=fun e' j'=>if e'=e∧j<=j'∧j'<j+xs.length then ob (j'-j)else L.sub e' j'}
 have hsub:∀e' j' b,L'.sub e' j'=some b->(e'=e∧j<=j'∧j'<j+xs.length∧ob (j'-j)=some b)∨(¬(e'=e∧j<=j'∧j'<j+xs.length)∧L.sub e' j'=some b):=by
  intro e' j' b h0;simp only[L']at h0;split at h0
  ·rename_i h1;exact .inl ⟨h1.1,h1.2.1,h1.2.2,h0⟩
  ·rename_i h1;exact .inr ⟨h1,h0⟩
 have hsubne:∀e' j' b,L'.sub e' j'=some b->b≠L.b:=by
  intro e' j' b h0;rcases hsub e' j' b h0 with⟨_,_,_,h1⟩|⟨_,h1⟩
  ·rintro rfl;obtain⟨_,_,id',p1,_,p3⟩:=s6 _ _ h1;exact hne0 id' p3 (hm.inj id' id L.b p1 (hOid _ (.inl ⟨htot,rfl⟩)))
  ·exact(b7 e' j' b h1).2.2.2
 have hget:∀i,i≠id->((CU id mem1).set id (some (.deep ks r1 none)))[i]? =(CU id mem1)[i]? :=fun i hi=>List.getElem?_set_ne fun h=>hi h.symm;have hw:∀b,b≠L.b->(w.setCells L.b (L.off+e*L.sz+j) cs).heap[b]? =w.heap[b]? :=q4;refine⟨c,T,b9,b10,hfit,?_⟩;obtain⟨ρ',k1,k2,_⟩:=hm.upd (q:=id) (blk:=.deep ks r1 none) (L:=L') (mem':=(CU id mem1).set id (some (.deep ks r1 none))) (w':=w.setCells L.b (L.off+e*L.sz+j) cs) (by simp[Dk,s3.1]) (by rw[List.getElem?_set_self (by rw[Dk,s3.1];exact hlt)])
  (fun i b hi hb'=>by
   rw[hget i hi]at hb';obtain⟨g1,g2⟩:=EL hb';have g3:=s3.get g1;refine⟨g3,fun p e2 j2 ks2 r2 hbr=>?_⟩;subst hbr;obtain⟨L2,_,hr2⟩:=hm.blk i _ g3;obtain⟨_,_,_,_,_,Lp,kps,rp,hh2,a2,p1,_⟩:=hr2;have hne:p≠id:=by rintro rfl;exact g2 _ _ _ _ rfl
   have p2:=s3.deep p1;exact⟨hne,by rw[hget p hne,GK (fun q e j ks r hq=>by rw[p2,p1]at hq;cases hq)];exact p2⟩)
  (fun b hb'=>by
   rcases hb' with⟨h1,h2⟩|⟨e',j',h0⟩
   ·exact .inr ⟨id,hOid b (.inl ⟨h1,h2⟩),.inl rfl⟩
   ·rcases hsub e' j' b h0 with⟨_,_,_,h1⟩|⟨_,h1⟩
    ·obtain⟨_,_,id',p1,_,p3⟩:=s6 _ _ h1;refine .inr ⟨id',p1,.inr fun c hc=>?_⟩;rw[hget id' (hne0 id' p3),VL p3]at hc;cases hc
    ·exact .inr ⟨id,hOid b (.inr ⟨e',j',h1⟩),.inl rfl⟩)
  (by rw[q5];exact AC _)
  (fun b _ hc=>hw b fun h0=>(hc id (h0▸hOid L.b (.inl ⟨htot,rfl⟩))).1 rfl)
  (fun ρ''=>by
   refine⟨b1.trans s1.symm,b2,b3,by rw[s1];exact b4,fun _=>⟨b9,c',T,q1,by rw[q2];exact b11⟩,fun e' j' k he' hk=>?_,fun e' j' b h0=>?_,fun _ e1 j1 e2 j2 b h1 h2=>?_⟩
   ·rw[s1]at he';have hj':j'<L.sz:=by rw[b2];exact(A0.1 hk).1
    by_cases hin:e'=e∧j<=j'∧j'<j+xs.length
    ·obtain⟨rfl,h1,h2⟩:=hin;have hci:j'-j<cs.length:=o_;refine⟨cs[j'-j],?_,?_⟩
     ·simp only[World.cell?,L',q1,Option.isSome_none,Bool.false_eq_true,if_false,q3];rw[<-b2,AM o_,show L.off+e'*L.sz+j'-(L.off+e'*L.sz+j)=j'-j by omega];exact AK hci
     ·have:=s5 (j'-j) k cs[j'-j] (by rw[List.getElem?_drop,show j+(j'-j)=j' by omega];exact hk) (AK hci);rw[show j+(j'-j)=j' by omega]at this;have hs':L'.sub e' j'=ob (j'-j):=by simp only[L',h1,h2,and_self,if_true]
      rw[hs'];exact this.mono fun b hb'=>hw b (hsubne e' j' b (hs'.trans hb'))
    ·obtain⟨v,g1,g2⟩:=b6 e' j' k he' hk;have hs':L'.sub e' j'=L.sub e' j':=by simp only[L',hin,if_false]
     refine⟨v,?_,?_⟩
     ·simp only[World.cell?,b10,Option.isSome_none,Bool.false_eq_true,if_false]at g1;simp only[World.cell?,L',q1,Option.isSome_none,Bool.false_eq_true,if_false,q3];rw[<-b2]at g1⊢;rw[AL,g1];rintro⟨p1,p2⟩;apply hin;have hee:e'=e:=by
       rcases Nat.lt_trichotomy e' e with hlt|heq|hgt
       ·exfalso;have:(e'+1)*L.sz<=e*L.sz:=AH _ o_;rw[Nat.add_mul,Nat.one_mul]at this;omega
       ·exact heq
       ·exfalso;have:(e+1)*L.sz<=e'*L.sz:=AH _ o_;rw[Nat.add_mul,Nat.one_mul]at this;omega
      subst hee;exact⟨rfl,o_,o_⟩
     ·rw[hs'];have hf:Ej h e' j'=false:=by
       cases hi:Ej h e' j' with
       |false=>rfl
       |true=>exact absurd (hh e' j' hi) hin
      rw[hf]at g2;have g3:=(s4 e' j' (by
       by_cases h1:e'=e
       ·by_cases h2:j'<j
        ·exact .inr (.inl h2)
        ·exact .inr (.inr o_)
       ·exact .inl h1)).dcell g2
      exact g3.mono fun b hb'=>hw b (hsubne e' j' b (hs'.trans hb'))
   ·rcases hsub e' j' b h0 with⟨rfl,h1,h2,h3⟩|⟨_,h1⟩
    ·obtain⟨_,⟨sb,p1⟩,_⟩:=s6 _ _ h3;rw[List.getElem?_drop,show j+(j'-j)=j' by omega]at p1;exact⟨by rw[s1];exact he,⟨sb,p1⟩,rfl,hsubne _ _ b h0⟩
    ·obtain⟨p1,p2,_,p4⟩:=b7 e' j' b h1;exact⟨by rw[s1];exact p1,p2,rfl,p4⟩
   ·rcases hsub e1 j1 b h1 with⟨rfl,p1,p2,p3⟩|⟨_,p1⟩<;>rcases hsub e2 j2 b h2 with⟨rfl,r1,r2,r3⟩|⟨_,r1⟩
    ·have:=s7 _ _ b p3 r3;exact⟨rfl,o_⟩
    ·exfalso;obtain⟨_,_,id',u1,_,u3⟩:=s6 _ _ p3;exact hne0 id' u3 (hm.inj id' id b u1 (hOid b (.inr ⟨_,_,r1⟩)))
    ·exfalso;obtain⟨_,_,id',u1,_,u3⟩:=s6 _ _ r3;exact hne0 id' u3 (hm.inj id' id b u1 (hOid b (.inr ⟨_,_,p1⟩)))
    ·exact b8 _ _ _ _ b p1 r1)
  (fun _=>⟨L,L.own,L'.sub,hL,rfl,fun h=>h⟩)
 exact⟨ρ',k1,k2⟩
def Z4{ks:List CK}{r r1:Row}{b off e j:Nat}{cs:List Value}{c c':Array Value}{T:TypeId}{ok ok':Nat->Prop}(hf:flat ks=true)(hg:w.heap[b]? =some (.cells c T (0,0)))(hg':w'.heap[b]? =some (.cells c' T (0,0)))(hrn:r1.n=r.n)(hj:j+cs.length<=ks.length)
  (hc':∀i,c'[i]? =if off+e*ks.length+j<=i∧i<off+e*ks.length+j+cs.length then cs[i-(off+e*ks.length+j)]? else c[i]?)
  (hold:∀(k:CK)(e' j':Nat)(v:Value),(e'≠e∨j'<j∨j+cs.length<=j')->CellR ok w k r e' j' v->CellR ok w k r1 e' j' v)
  (hnew:∀(i:Nat)(k:CK)(x:Value),(ks.drop j)[i]? =some k->cs[i]? =some x->CellR ok' w k r1 e (j+i) x) (h:Rds ok w ks r b off):Rds (fun _=>False) w' ks r1 b off:=by
 cases h with
 |mk v0 v1 v2=>
  have hcell:∀(e' j':Nat)(k:CK),e'<r.n->ks[j']? =some k->c[off+e'*ks.length+j']? =some (v0 e' j'):=by
   intro e' j' k he hk;have:=v1 e' j' k he hk;simpa only[World.cell?,hg,Option.isSome_none,Bool.false_eq_true,if_false]using this
  refine .mk (fun e' j'=>if e'=e∧j<=j'∧j'<j+cs.length then cs.getD (j'-j) undef else v0 e' j') (fun e' j' k he hk=>?_) (fun e' j' k he hk=>?_)
  ·have hj':j'<ks.length:=(A0.1 hk).1;have hc:=hcell e' j' k o_ hk;simp only[World.cell?,hg',Option.isSome_none,Bool.false_eq_true,if_false,hc'];by_cases hin:e'=e∧j<=j'∧j'<j+cs.length
   ·obtain⟨rfl,p1,p2⟩:=hin;rw[AM o_,AM ⟨rfl,p1,p2⟩];rw[show off+e'*ks.length+j'-(off+e'*ks.length+j)=j'-j by omega];have:j'-j<cs.length:=o_;rw[AK this,List.getD_eq_getElem?_getD,AK this,Option.getD_some]
   ·rw[AL hin,AL,hc];rintro⟨p1,p2⟩;apply hin;have hee:e'=e:=by
     rcases Nat.lt_trichotomy e' e with hlt|heq|hgt
     ·exfalso;have:(e'+1)*ks.length<=e*ks.length:=AH _ o_;rw[Nat.add_mul,Nat.one_mul]at this;omega
     ·exact heq
     ·exfalso;have:(e+1)*ks.length<=e'*ks.length:=AH _ o_;rw[Nat.add_mul,Nat.one_mul]at this;omega
    subst hee;exact⟨rfl,o_,o_⟩
  ·by_cases hin:e'=e∧j<=j'∧j'<j+cs.length
   ·obtain⟨rfl,p1,p2⟩:=hin;have hif:(if e'=e'∧j<=j'∧j'<j+cs.length then cs.getD (j'-j) undef else v0 e' j')=cs.getD (j'-j) undef:=AM ⟨rfl,p1,p2⟩;show CellR _ _ k r1 e' j' (if e'=e'∧j<=j'∧j'<j+cs.length then cs.getD (j'-j) undef else v0 e' j');rw[hif];have hlt:j'-j<cs.length:=o_;have hc2:cs[j'-j]? =some (cs.getD (j'-j) undef):=by
     rw[List.getD_eq_getElem?_getD,AK hlt,Option.getD_some]
    have:=hnew (j'-j) k _ (by rw[List.getElem?_drop,show j+(j'-j)=j' by omega];exact hk) hc2;rw[show j+(j'-j)=j' by omega]at this;exact CellR.plain (w:=w') (ok:=fun _=>True) (EY hf _ _ hk) ((this.plain (ok':=fun _=>False) (EY hf _ _ hk)).mono fun _ hf=>hf.elim)
   ·simp only[AL hin];have h9:=hold k e' j' _ (by
     by_cases h1:e'=e
     ·by_cases h2:j'<j
      ·exact .inr (.inl h2)
      ·exact .inr (.inr o_)
     ·exact .inl h1) (v2 e' j' k o_ hk)
    exact CellR.plain (w:=w') (ok:=fun _=>True) (EY hf _ _ hk) ((h9.plain (ok':=fun _=>False) (EY hf _ _ hk)).mono fun _ hf=>hf.elim)
def oH(hm:MemR mem ρ B w){id p e0 j0 e j:Nat}{ks kp:List CK}{r r1 rp:Row}{xs cs:List Value}{mem1:M_}{L:Loc}(hb:mem[id]? =some (some (.bor p e0 j0 ks r)))(hp:mem[p]? =some (some (.deep kp rp none)))(hL:ρ id=some L)(he:e<r.n)(hset:setCells mem r e j (ks.drop j) xs=some (r1,mem1))(hl:cs.length=xs.length)
  (hv:∀(i:Nat)(x c:Value),xs[i]? =some x->cs[i]? =some c->V ρ mem.length x c) (hpos:0<xs.length) (hmany:GV kp=false):
  ∃c T,B<=L.b∧w.heap[L.b]? =some (.cells c T (0,0))∧L.off+e*L.sz+j+cs.length<=c.size∧
   ∃ρ',MemR ((CU p mem).set p (some (.deep kp (rp.setR e0 j0 r1) none))) ρ' B (w.setCells L.b (L.off+e*L.sz+j) cs)∧(∀i,i<mem.length->Less ρ ρ' i):=by
 obtain⟨M,hM,f1,f2,f3,f4,f5,Lp,kp',rp',h,a,g1,g2,g3,g4,g5,g6,g0,g7,g8⟩:=hm.blk _ _ hb;rw[hL]at hM;cases hM;rw[hp]at g1;cases g1;obtain⟨Mp,hMp,b1,b2,b3,b4,b5,b6,b7,b8⟩:=hm.blk p _ hp;rw[g2]at hMp;cases hMp;obtain⟨v,v1,v2⟩:=b6 e0 j0 _ g3 g4;rw[g7]at v1;cases v1;obtain⟨a',cap,v3,v4,v5⟩:=v2.2.2 rfl;obtain⟨w1,_,w3⟩:=Value.slice.inj v3;subst w1;subst w3;rw[g6]at v4 v5;rcases v5 with⟨v5,_⟩|⟨b,off,c,T,u1,u2,u3,u4,u5,u6⟩
 ·omega
 have ha:L.b=b∧L.off=off:=by
  rcases g8 with g8|g8
  ·omega
  ·rw[u2]at g8;cases g8;exact⟨rfl,rfl⟩
 obtain⟨rfl,rfl⟩:=ha;obtain⟨ρ1,k1,k2,k3,k4,k5,k6⟩:=Ew (w:=w) xs mem mem1 ρ r r1 j (ks.drop j) cs hset hm hl hv;simp only[List.length_drop]at k4;have hrow:e*L.sz+L.sz<=L.tot*L.sz:=by
  have:(e+1)*L.sz<=L.tot*L.sz:=AH _ o_
  rwa [Nat.add_mul,Nat.one_mul]at this
 have hfit:L.off+e*L.sz+j+cs.length<=c.size:=by rw[<-f3]at u5;omega
 obtain⟨c',q1,q2,q3,q4,q5⟩:=CQ cs (L.off+e*L.sz+j) w c u4 hfit;have hplt:p<mem.length:=(A0.1 hp).1;have hne:L.b≠Lp.b:=(b7 e0 j0 _ u1).2.2.2;have hO:Az mem ρ p L.b:=⟨Lp,_,g2,hp,rfl,.inr ⟨e0,j0,u1⟩⟩;have hw:∀b,b≠L.b->(w.setCells L.b (L.off+e*L.sz+j) cs).heap[b]? =w.heap[b]? :=q4;have hget:∀i,i≠p->((CU p mem).set p (some (.deep kp (rp.setR e0 j0 r1) none)))[i]? =(CU p mem)[i]? :=fun i hi=>List.getElem?_set_ne fun h=>hi h.symm;refine⟨c,T,u3,u4,hfit,?_⟩;obtain⟨ρ',m1,m2,_⟩:=hm.upd (q:=p) (blk:=.deep kp (rp.setR e0 j0 r1) none) (L:=Lp) (mem':=(CU p mem).set p (some (.deep kp (rp.setR e0 j0 r1) none))) (w':=w.setCells L.b (L.off+e*L.sz+j) cs) (by simp[Dk]) (by rw[List.getElem?_set_self (by rw[Dk];exact hplt)])
  (fun i b hi hb'=>by
   rw[hget i hi]at hb';obtain⟨p1,p2⟩:=EL hb';refine⟨p1,fun p' e2 j2 ks2 r2 hbr=>?_⟩;subst hbr;obtain⟨L2,_,hr2⟩:=hm.blk i _ p1;obtain⟨_,_,_,_,_,Lp2,kps2,rp2,hh2,a2,p3,_⟩:=hr2;have hne:p'≠p:=by rintro rfl;exact p2 _ _ _ _ rfl
   exact⟨hne,by rw[hget p' hne];exact GK (fun q e j ks r hq=>by rw[p3]at hq;cases hq)⟩)
  (fun b hb'=>.inr ⟨p,⟨Lp,_,g2,hp,rfl,hb'⟩,.inl rfl⟩) (by rw[q5];exact AC _)
  (fun b _ hc=>hw b fun h0=>(hc p (h0▸hO)).1 rfl)
  (fun ρ''=>by
   refine⟨b1,b2,b3,b4,fun ht=>?_,fun e' j' k he' hk=>?_,b7,b8⟩
   ·obtain⟨x1,c2,T2,x2,x3⟩:=b5 ht;exact⟨x1,c2,T2,(hw _ hne.symm).trans x2,x3⟩
   ·obtain⟨v,x1,x2⟩:=b6 e' j' k he' hk;refine⟨v,(World.cell?_of_block (a:=⟨Lp.b,Lp.off+e'*kp.length+j',none⟩) (hw _ hne.symm)).trans x1,?_⟩;by_cases hin:e'=e0∧j'=j0
    ·obtain⟨rfl,rfl⟩:=hin;rw[g4]at hk;cases hk;rw[g7]at x1;cases x1;refine⟨f1,rfl,fun _=>⟨a,L.tot,?_,?_,.inr ⟨L.b,L.off,c',T,u1,u2,u3,q1,by rw[q2];exact u5,?_⟩⟩⟩
     ·have:(rp.setR e' j' r1).R e' j'=r1:=by simp only[Row.setR,Row.R,hit,cond_true]
      rw[this,k3]
     ·have:(rp.setR e' j' r1).R e' j'=r1:=by simp only[Row.setR,Row.R,hit,cond_true]
      rw[this,k3];exact v4
     ·have:(rp.setR e' j' r1).R e' j'=r1:=by simp only[Row.setR,Row.R,hit,cond_true]
      rw[this];rw[f3]at q3;exact Z4 (ok':=okB mem1 ρ1 w) f1 u4 q1 k3 o_ q3 (fun k e2 j2 v hne hc=>k5 _ w k e2 j2 v (by rw[<-hl];exact hne) hc) k6 u6
    ·have hs:SameC rp (rp.setR e0 j0 r1) e' j':=⟨rfl,rfl,rfl,by simp only[Row.setR,Row.R,miss (show e'≠e0∨j'≠j0 by omega),cond_false]⟩;refine(hs.dcell x2).mono fun b hb'=>hw b ?_;rintro rfl;obtain⟨z1,z2⟩:=b8 hmany _ _ _ _ _ hb' u1;exact hin ⟨z1,z2⟩)
  (fun _=>⟨Lp,Lp.own,Lp.sub,g2,rfl,fun h=>h⟩)
 exact⟨ρ',m1,m2⟩
def SA{mem1:M_}{t:TypeId}{x v cx cv:Value}(h:VA P mem t x v=some (true,mem1))(hm:MemR mem ρ B w)(hx:V ρ mem.length x cx)(hv:V ρ mem.length v cv):
  ∃w' ρ1,(Instr.storeAt t cx cv).run P w=.ok () w'∧MemR mem1 ρ1 B w'∧mem1.length=mem.length∧(∀i,i<mem.length->Less ρ ρ1 i)∧∀W0,Below B W0 w->Below B W0 w':=by
 unfold VA at h;split at h
 ·rename_i id e j i hi hone;have hunk:=YC hone;obtain⟨hlen,hcells⟩:=hv.cells hunk;have hones:∀u∈cv.cells.toList,u.oneCell'=true:=by
   intro u hu;obtain⟨n,hn⟩:=List.getElem?_of_mem hu;have hlt:n<(Bc v).length:=by
    rw[hlen];have:=(A0.1 hn).1;simpa using this
   have h1:=hcells n _ u (AK hlt) (by simpa using hn);exact QS h1 (List.all_eq_true.1 hone _ (List.getElem_mem hlt))
  have hcs:∀(n:Nat)(p q:Value),(Bc v)[n]? =some p->cv.cells.toList[n]? =some q->V ρ mem.length p q:=fun n p q hp hq=>hcells n p q hp (by simpa using hq);have hll:cv.cells.toList.length=(Bc v).length:=by simp[hlen]
  split at h
  ·rename_i hsz0;obtain⟨hsz,hpos⟩:=hsz0;split at h
   ·rename_i ks r hh hb;split at h
    ·rename_i r1 m1 hset;obtain⟨hmany,hset⟩:=PE hset;cases hx with
     |ptrDead g1 g2=>exact absurd g2 (BX hm hb)
     |@ptr _ _ _ L g1 g2 g3=>
      have hLn:e<r.n:=by
       obtain⟨M,hM,hbr⟩:=hm.blk _ _ hb;rw[g2]at hM;cases hM;have:=hbr.1;omega
      have hfew:m1.length=mem.length:=by
       obtain⟨_,_,_,h3,_⟩:=E8 hm (Bc v) mem m1 r r1 j (ks.drop j) cv.cells.toList (.refl mem) hset hll hcs;exact h3.1
      have fin:(∀e' j',Ej hh e' j'=true->e'=e∧j<=j'∧j'<j+(Bc v).length)->mem1=(CU id m1).set id (some (.deep ks r1 none))->
        ∃w' ρ1,(Instr.storeAt t (.pointer (some (L.adr e j))) cv).run P w=.ok () w'∧MemR mem1 ρ1 B w'∧mem1.length=mem.length∧(∀i,i<mem.length->Less ρ ρ1 i)∧∀W0,Below B W0 w->Below B W0 w':=by
       intro hho he;obtain⟨c,T,k1,k2,k3,ρ',k4,k5⟩:=Zl hm hb g2 hLn hset hll hcs o_ hmany hho;exact⟨_,ρ',Gq hi o_ k2 (by rw[Array.length_toList]at k3;exact k3) hones,by rw[he];exact k4,by rw[he];simp[Dk,hfew],k5,fun W0 hW=>below_setCells hW k1⟩
      split at h
      ·simp only[A5,A6,true_and]at h;exact fin (fun _ _ h0=>by cases h0) h.symm
      ·rename_i eh jh;split at h
       ·rename_i hbeq;simp only[A5,A6,A3]at h;obtain⟨rfl,he⟩:=h;rw[A2]at hbeq;have hj:=AF hbeq.2;refine fin (fun e' j' h0=>?_) he.symm;simp only[Ej,A2]at h0;have h1:=AF h0.1;have h2:=AF h0.2;exact⟨h1,o_,o_⟩
       ·cases h
    ·cases h
   ·rename_i p e0 j0 ks r hb;split at h
    ·rename_i r1 m1 kp rp hset hp;obtain⟨hmany,h⟩:=PE h;simp only[A5,A6,true_and]at h;cases hx with
     |ptrDead g1 g2=>exact absurd g2 (BX hm hb)
     |@ptr _ _ _ L g1 g2 g3=>
      have hLn:e<r.n:=by
       obtain⟨M,hM,hbr⟩:=hm.blk _ _ hb;rw[g2]at hM;cases hM;have:=hbr.2.1;omega
      obtain⟨c,T,k1,k2,k3,ρ',k4,k5⟩:=oH hm hb hp g2 hLn hset hll hcs o_ hmany;exact⟨_,ρ',Gq hi o_ k2 (by rw[Array.length_toList]at k3;exact k3) hones,by rw[<-h];exact k4,by rw[<-h];simp[Dk],k5,fun W0 hW=>below_setCells hW k1⟩
    ·cases h
   ·cases h
  ·cases h
 ·cases h
def MemR.take(hm:MemR mem ρ B w){id p e j:Nat}{ks kp:List CK}{r rp:Row}(hb:mem[id]? =some (some (.bor p e j ks r)))(hp:mem[p]? =some (some (.deep kp rp none)))(hmany:GV kp=false):
  ∃ρ',MemR (Hl mem id p e j ks kp r rp) ρ' B w∧(∀i,i<mem.length->Less ρ ρ' i)∧(∀b,okB mem ρ w b->okB (Hl mem id p e j ks kp r rp) ρ' w b):=by
 obtain⟨L,hL,f1,f2,f3,f4,f5,Lp,kp',rp',h,a,g1,g2,g3,g4,g5,g6,g0,g7,g8⟩:=hm.blk _ _ hb;rw[hp]at g1;cases g1;obtain⟨Mp,hMp,b1,b2,b3,b4,b5,b6,b7,b8⟩:=hm.blk p _ hp;replace b8:=b8 hmany;rw[g2]at hMp;cases hMp;obtain⟨v,v1,v2⟩:=b6 e j _ g3 g4;rw[g7]at v1;cases v1;obtain⟨a',cap,v3,v4,v5⟩:=v2.2.2 rfl;obtain⟨w1,_,w3⟩:=Value.slice.inj v3;subst w1;subst w3;rw[g6]at v4 v5;have hne:id≠p:=by rintro rfl;rw[hb]at hp;cases hp
 have hidlt:id<mem.length:=(A0.1 hb).1;have hplt:p<mem.length:=(A0.1 hp).1;have hsub:0<L.tot->Lp.sub e j=some L.b∧B<=L.b∧(∃c T,w.heap[L.b]? =some (.cells c T (0,0))∧L.off+L.tot*L.sz<=c.size)∧Rds (fun _=>False) w ks r L.b L.off:=by
  intro ht;rcases v5 with⟨v5,_⟩|⟨b,off,c,T,u1,u2,u3,u4,u5,u6⟩
  ·omega
  ·have ha:L.b=b∧L.off=off:=by
    rcases g8 with g8|g8
    ·omega
    ·rw[u2]at g8;cases g8;exact⟨rfl,rfl⟩
   obtain⟨rfl,rfl⟩:=ha;exact⟨u1,u3,⟨c,T,u4,by rw[f3];exact u5⟩,u6⟩
 let Lp':Loc:={Lp with sub:=fun e' j'=>if e'=e∧j'=j then none else Lp.sub e' j'}
 let m':=Hl mem id p e j ks kp r rp
 let ρn:Map:=fun i=>if i=id then some L else if i=p then some Lp' else match m'[i]? with|some (some _)=>ρ i|_=>none
 have hid':m'[id]? =some (some (.row ks true r)):=by
  show(Hl mem id p e j ks kp r rp)[id]? =_;unfold Hl;rw[List.getElem?_set_self (by simp[Dk];exact hidlt)]
 have hp':m'[p]? =some (some (.deep kp rp (some (e,j)))):=by
  show(Hl mem id p e j ks kp r rp)[p]? =_;unfold Hl;rw[List.getElem?_set_ne hne,List.getElem?_set_self (by rw[Dk];exact hplt)]
 have hoth:∀i,i≠id->i≠p->m'[i]? =(CU p mem)[i]? :=fun i h1 h2=>by
  show(Hl mem id p e j ks kp r rp)[i]? =_;unfold Hl;rw[List.getElem?_set_ne fun h=>h1 h.symm,List.getElem?_set_ne fun h=>h2 h.symm]
 have nid:ρn id=some L:=by simp[ρn]
 have np:ρn p=some Lp':=by
  show(if p=id then some L else if p=p then some Lp' else match m'[p]? with|some (some _)=>ρ p|_=>none)=some Lp'
  rw[AL fun h=>hne h.symm,AM rfl]
 have nold:∀i b,i≠id->i≠p->m'[i]? =some (some b)->ρn i=ρ i:=fun i b h1 h2 hb=>by simp[ρn,h1,h2,hb]
 have ndead:∀i,i≠id->i≠p->(∀b,m'[i]? ≠some (some b))->ρn i=none:=fun i h1 h2 hb=>by
  show(if i=id then some L else if i=p then some Lp' else match m'[i]? with|some (some _)=>ρ i|_=>none)=none
  rw[AL h1,AL h2];cases hm:m'[i]? with
  |none=>rfl
  |some c=>
   cases c with
   |none=>rfl
   |some c=>exact absurd hm (hb c)
 have hOp:∀b,Lp.foot b->Az mem ρ p b:=fun b hb'=>⟨Lp,_,g2,hp,rfl,hb'⟩;have hown:∀i b,Az m' ρn i b->(i=id∧b=L.b∧Az mem ρ p b)∨(i=p∧Az mem ρ p b∧(0<L.tot->b≠L.b))∨(i≠id∧i≠p∧Az mem ρ i b):=by
  intro i b ⟨M,c,x1,x3,x4,x2⟩;by_cases h1:i=id
  ·subst h1;rw[nid]at x1;cases x1;obtain⟨y1,y2⟩:=Loc.foot_s0 f5 x2;exact .inl ⟨rfl,y2,by rw[y2];exact hOp _ (.inr ⟨e,j,(hsub y1).1⟩)⟩
  ·by_cases h2:i=p
   ·subst h2;rw[np]at x1;cases x1;refine .inr (.inl ⟨rfl,?_⟩);rcases x2 with⟨y1,y2⟩|⟨e',j',y1⟩
    ·refine⟨hOp b (.inl ⟨y1,y2⟩),fun ht=>?_⟩;rw[y2];exact fun h0=>(b7 e j L.b (hsub ht).1).2.2.2 h0.symm
    ·simp only[Lp']at y1;split at y1
     ·cases y1
     ·rename_i hin;refine⟨hOp b (.inr ⟨e',j',y1⟩),fun ht h0=>?_⟩;subst h0;obtain⟨z1,z2⟩:=b8 _ _ _ _ _ y1 (hsub ht).1;exact hin ⟨z1,z2⟩
   ·rw[nold i c h1 h2 x3]at x1;rw[hoth i h1 h2]at x3;exact .inr (.inr ⟨h1,h2,M,c,x1,(EL x3).1,x4,x2⟩)
 have hok:∀b,okB mem ρ w b->okB m' ρn w b:=fun b hb'=>⟨hb'.1,fun i ho=>by
  rcases hown i b ho with⟨_,_,h1⟩|⟨_,h1,_⟩|⟨_,_,h1⟩
  ·exact hb'.2 _ h1
  ·exact hb'.2 _ h1
  ·exact hb'.2 _ h1⟩
 have hless:∀i,i<mem.length->Less ρ ρn i:=by
  intro i hi;by_cases h1:i=id
  ·subst h1;exact .inl (nid.trans hL.symm)
  ·by_cases h2:i=p
   ·subst h2;exact .inr (.inr ⟨Lp,Lp.own,Lp'.sub,g2,np,fun h=>h⟩)
   ·cases hm:m'[i]? with
    |none=>exact .inr (.inl (ndead i h1 h2 fun b hb=>by rw[hm]at hb;cases hb))
    |some c=>
     cases c with
     |none=>exact .inr (.inl (ndead i h1 h2 fun b hb=>by rw[hm]at hb;cases hb))
     |some c=>exact .inl (nold i c h1 h2 hm)
 refine⟨ρn,hm.step (by show mem.length<=(Hl mem id p e j ks kp r rp).length;simp[Hl,Dk]) hless (fun b hb'=>⟨hok b hb',rfl⟩) (fun i b hi=>?_) (fun i hi=>?_) (fun i i' b hi hj=>?_),hless,hok⟩
 ·by_cases h1:i=id
  ·subst h1;rw[hid']at hi;cases hi;refine .inr ⟨L,nid,f2,f3,fun _=>⟨f4,v4,fun ht=>⟨(hsub ht).2.1,(hsub ht).2.2.1⟩⟩,fun hn=>⟨(fun hf=>by cases hf),(hsub o_).2.2.2.plain f1⟩,f5⟩
  ·by_cases h2:i=p
   ·subst h2;rw[hp']at hi;cases hi;refine .inr ⟨Lp',np,b1,b2,b3,b4,b5,fun e' j' k he' hk=>?_,fun e' j' b hs=>?_,fun _ e1 j1 e2 j2 b hs1 hs2=>?_⟩
    ·obtain⟨v,x1,x2⟩:=b6 e' j' k he' hk;refine⟨v,x1,?_⟩;cases k with
     |slice s=>
      refine⟨x2.1,x2.2.1,fun hh=>?_⟩;have hin:¬(e'=e∧j'=j):=by
       rintro⟨rfl,rfl⟩;simp[Ej]at hh
      have:Lp'.sub e' j'=Lp.sub e' j':=by simp only[Lp',hin,if_false]
      rw[this];exact x2.2.2 rfl
     |int k=>exact x2
     |bool=>exact x2
     |str=>exact x2
     |other=>exact x2
    ·simp only[Lp']at hs;split at hs
     ·cases hs
     ·rename_i hin;obtain⟨y1,y2,_,y4⟩:=b7 e' j' b hs;refine⟨y1,y2,?_,y4⟩;simp only[Ej];exact miss o_
    ·simp only[Lp']at hs1 hs2;split at hs1
     ·cases hs1
     ·split at hs2
      ·cases hs2
      ·exact b8 _ _ _ _ _ hs1 hs2
   ·have hi':=hi;rw[hoth i h1 h2]at hi';obtain⟨x1,x2⟩:=EL hi';refine .inl ⟨x1,nold i b h1 h2 hi,fun _ _ _ _ _=>rfl,fun p2 e2 j2 ks2 r2 hbr kps rp2 hh Lp2 q1 q2=>?_⟩;subst hbr;have y1:p2≠p:=by rintro rfl;exact x2 _ _ _ _ rfl
    have y2:p2≠id:=by rintro rfl;rw[hb]at q1;cases q1
    have y3:m'[p2]? =some (some (.deep kps rp2 hh)):=by
     rw[hoth p2 y2 y1,GK (fun q e j ks r hq=>by rw[q1]at hq;cases hq)];exact q1
    exact⟨y3,(nold p2 _ y2 y1 y3).trans q2,fun _=>rfl⟩
 ·have h1:i≠id:=by rintro rfl;exact hi _ hid'
  have h2:i≠p:=by rintro rfl;exact hi _ hp'
  exact ndead i h1 h2 hi
 ·have hbt:∀b,Az m' ρn id b->b=L.b∧0<L.tot:=by
   intro b ⟨M,c,x1,_,_,x2⟩;rw[nid]at x1;cases x1;obtain⟨y1,y2⟩:=Loc.foot_s0 f5 x2;exact⟨y2,y1⟩
  rcases hown i b hi with⟨rfl,x2,x3⟩|⟨rfl,x2,x3⟩|⟨x0,x1,x2⟩<;>rcases hown i' b hj with⟨rfl,y2,y3⟩|⟨rfl,y2,y3⟩|⟨y0,y1,y2⟩
  ·rfl
  ·exact absurd x2 (y3 (hbt b hi).2)
  ·exact absurd (hm.inj _ _ b x3 y2).symm y1
  ·exact absurd y2 (x3 (hbt b hj).2)
  ·rfl
  ·exact absurd (hm.inj _ _ b x2 y2).symm y1
  ·exact absurd (hm.inj _ _ b x2 y3) x1
  ·exact absurd (hm.inj _ _ b x2 y2) x1
  ·exact hm.inj i i' b x2 y2
def Qg(hm:MemR mem ρ B w)(s:Value):∃ρ',MemR (DN mem s) ρ' B w∧(DN mem s).length=mem.length∧∀i,i<mem.length->Less ρ ρ' i:=by
 unfold DN;split
 ·split
  ·rename_i p e j ks r hb;split
   ·rename_i kp rp hp;split
    ·exact⟨ρ,hm,rfl,fun _ _=>.inl rfl⟩
    ·rename_i hmany;obtain⟨ρ',h1,h2,_⟩:=hm.take hb hp hmany;exact⟨ρ',h1,by simp[Hl,Dk],h2⟩
   ·exact⟨ρ,hm,rfl,fun _ _=>.inl rfl⟩
  ·exact⟨ρ,hm,rfl,fun _ _=>.inl rfl⟩
 ·exact⟨ρ,hm,rfl,fun _ _=>.inl rfl⟩
end
open Go.MapKept
section
variable{P:Program}{mem mem':M_}{ρ ρ':Map}{B:Nat}{w w':World}
def Bz(a b:Y_):(a.toList==b.toList)=true↔a=b:=by
 rw[<-beq_toListBytes];exact bytes_beq a b
end
end Go.Ev
namespace Go.Ev
open Go.RowKit
section
variable{P:Program}{mem mem1 mem':M_}{ρ ρ':Map}{B:Nat}{w w':World}
structure Killed(mem mem1:M_)(D:Nat->Prop):Prop where
 len:mem1.length=mem.length
 old:∀(i:Nat)(b:Blk),mem1[i]? =some (some b)->mem[i]? =some (some b)∧¬D i∧∀p e j ks r,b=.bor p e j ks r->¬D p
 kept:∀i:Nat,¬D i->(∀p e j ks r,mem[i]? ≠some (some (.bor p e j ks r)))->mem1[i]? =mem[i]?
def Killed.refl(mem:M_):Killed mem mem (fun _=>False):=⟨rfl,fun _ _ h=>⟨h,id,fun _ _ _ _ _ _ h=>h⟩,fun _ _ _=>rfl⟩
def Killed.step{D:Nat->Prop}(h:Killed mem mem1 D)(p:Nat):Killed mem (OT p mem1) (fun i=>i=p∨D i):=by
 unfold OT;refine⟨by rw[Dk,List.length_set,h.len],fun i b hb=>?_,fun i hi hn=>?_⟩
 ·obtain⟨g1,g2⟩:=EL hb;have hip:i≠p:=by
   rintro rfl;have:=(A0.1 g1).1;rw[List.getElem?_set_self (by simpa using this)]at g1;cases g1
  rw[List.getElem?_set_ne (fun h=>hip h.symm)]at g1;obtain⟨g3,g4,g5⟩:=h.old i b g1;refine⟨g3,fun hd=>hd.elim hip g4,fun q e j ks r hbr hd=>?_⟩;rcases hd with rfl|hd
  ·exact g2 e j ks r hbr
  ·exact g5 q e j ks r hbr hd
 ·have hip:i≠p:=fun h=>hi (.inl h);have e1:(mem1.set p none)[i]? =mem[i]? :=by
   rw[List.getElem?_set_ne (fun h=>hip h.symm)];exact h.kept i (fun h=>hi (.inr h)) hn
  rw[GK (fun q e j ks r=>by rw[e1];exact hn q e j ks r),e1]
def DCell.one{k:CK}{r:Row}{e j:Nat}{hole:Bool}{ob:Option Nat}{v:Value}(h:DCell B w k r e j hole ob v):v.oneCell'=true:=by
 cases k with
 |slice sub=>exact h.2.1
 |int k=>cases h;rfl
 |bool=>cases h;rfl
 |str=>cases h;rfl
 |other=>cases h
def DCell.app_l{k:CK}{r s:Row}{e j:Nat}{hole:Bool}{ob:Option Nat}{v:Value}(he:e<r.n)(h:DCell B w k r e j hole ob v):DCell B w k (r.app s) e j hole ob v:=by
 have hb:Nat.blt e r.n=true:=by simp[Nat.blt_eq,he]
 cases k with
 |slice sub=>exact⟨h.1,h.2.1,fun hh=>by
   have e4:(r.app s).R e j=r.R e j:=by simp[Row.app,Row.R,hb]
   rw[e4];exact h.2.2 hh⟩
 |int k=>exact CellR.app_l he h
 |bool=>exact CellR.app_l he h
 |str=>exact CellR.app_l he h
 |other=>exact CellR.app_l he h
def DCell.app_r{k:CK}{r s:Row}{e j:Nat}{hole:Bool}{ob:Option Nat}{v:Value}(he:r.n<=e)(h:DCell B w k s (e-r.n) j hole ob v):DCell B w k (r.app s) e j hole ob v:=by
 have hb:Nat.blt e r.n=false:=by
  cases hh:Nat.blt e r.n with
  |false=>rfl
  |true=>rw[Nat.blt_eq]at hh;omega
 cases k with
 |slice sub=>exact⟨h.1,h.2.1,fun hh=>by
   have e4:(r.app s).R e j=s.R (e-r.n) j:=by simp[Row.app,Row.R,hb]
   rw[e4];exact h.2.2 hh⟩
 |int k=>exact CellR.app_r he h
 |bool=>exact CellR.app_r he h
 |str=>exact CellR.app_r he h
 |other=>exact CellR.app_r he h
def NH(n n2:Nat)(s1 s2:Nat->Nat->Option Nat):Nat->Nat->Option Nat:=fun e j=>if e<n then s1 e j else if e-n<n2 then s2 (e-n) j else none
def Jd(hm:MemR mem ρ B w){D:Nat->Prop}(hk:Killed mem mem1 D){ks:List CK}{r1 r2:Row}{v1 v2:Nat->Nat->Value}{s1 s2:Nat->Nat->Option Nat}{i1 i2:Nat}(h12:i1≠i2)(hD1:(∃e j b,e<r1.n∧s1 e j=some b)->D i1)(hD2:D i2)
  (d1:∀e j k,e<r1.n->ks[j]? =some k->DCell B w k r1 e j false (s1 e j) (v1 e j)) (d2:∀e j k,e<r2.n->ks[j]? =some k->DCell B w k r2 e j false (s2 e j) (v2 e j))
  (o1:∀e j b,e<r1.n->s1 e j=some b->Az mem ρ i1 b∧∃s,ks[j]? =some (.slice s)) (o2:∀e j b,e<r2.n->s2 e j=some b->Az mem ρ i2 b∧∃s,ks[j]? =some (.slice s))
  (j1:GV ks=false->∀e j e' j' b,s1 e j=some b->s1 e' j'=some b->e=e'∧j=j') (j2:GV ks=false->∀e j e' j' b,s2 e j=some b->s2 e' j'=some b->e=e'∧j=j')
  {b' off' tot:Nat} (hw:w.heap.size<=w'.heap.size) (hblk:0<tot->B<=b'∧∃(c:Array Value)(T:TypeId),w'.heap[b']? =some (.cells c T (0,0))∧off'+tot*ks.length<=c.size)
  (hown:0<tot->w.heap.size<=b'∨∃i,D i∧Az mem ρ i b') (hsub:∀e j b,(e<r1.n∧s1 e j=some b)∨(e<r2.n∧s2 e j=some b)->b≠b') (hsame:∀b,b<w.heap.size->(0<tot->b≠b')->w'.heap[b]? =w.heap[b]?)
  (hcell:∀e j k,e<r1.n+r2.n->ks[j]? =some k->w'.cell? ⟨b',off'+e*ks.length+j,none⟩=some (if e<r1.n then v1 e j else v2 (e-r1.n) j)) (hn:r1.n+r2.n<=tot):
  ∃ρ',MemR (mem1++[some (.deep ks (r1.app r2) none)]) ρ' B w'∧(∀i,i<mem.length->Less ρ ρ' i)∧ρ' mem.length=some ⟨b',off',ks.length,tot,r1.n+r2.n,true,NH r1.n r2.n s1 s2⟩:=by
 have hspec:∀e j b,NH r1.n r2.n s1 s2 e j=some b->(e<r1.n∧s1 e j=some b)∨(r1.n<=e∧e-r1.n<r2.n∧s2 (e-r1.n) j=some b):=by
  intro e j b h;unfold NH at h;split at h
  ·exact .inl ⟨by assumption,h⟩
  ·split at h
   ·exact .inr ⟨o_,by assumption,h⟩
   ·cases h
 have hne:∀e j b,NH r1.n r2.n s1 s2 e j=some b->b≠b':=fun e j b h=>by
  rcases hspec e j b h with⟨g1,g2⟩|⟨_,g1,g2⟩
  ·exact hsub e j b (.inl ⟨g1,g2⟩)
  ·exact hsub _ j b (.inr ⟨g1,g2⟩)
 have hOw:∀e j b,NH r1.n r2.n s1 s2 e j=some b->∃i,D i∧Az mem ρ i b:=fun e j b h=>by
  rcases hspec e j b h with⟨g1,g2⟩|⟨_,g1,g2⟩
  ·exact⟨i1,hD1 ⟨e,j,b,g1,g2⟩,(o1 e j b g1 g2).1⟩
  ·exact⟨i2,hD2,(o2 _ j b g1 g2).1⟩
 have hdead:∀i,D i->∀c,mem1[i]? ≠some (some c):=fun i hi c hc=>(hk.old i c hc).2.1 hi;have hpos:∀b,(∀i,Az mem ρ i b->∃c,(mem1++[some (.deep ks (r1.app r2) none)])[i]? =some (some c))->b<w.heap.size->0<tot->b≠b':=by
  intro b hb hlt ht he;subst he;rcases hown ht with h|⟨i,h1,h2⟩
  ·omega
  ·obtain⟨c,hc⟩:=hb i h2;have hil:i<mem.length:=by
    obtain⟨_,blk,_,g,_⟩:=h2;exact(A0.1 g).1
   rw[AQ (by rw[hk.len];exact hil)]at hc;exact hdead i h1 c hc
 refine hm.upd (q:=mem.length) (blk:=.deep ks (r1.app r2) none) (by simp[hk.len]) (by rw[List.getElem?_append_right (by rw[hk.len];exact AC _),hk.len];simp) (fun i b hi hb=>?_) (fun b hb=>?_) hw (fun b hb ho=>?_) (fun ρ'=>?_) (fun h=>absurd h (Nat.lt_irrefl _))
 ·rcases BN hb with⟨g1,g2⟩|⟨g1,_⟩
  ·obtain⟨g3,g4,g5⟩:=hk.old i b g1;refine⟨g3,fun p e j ks' r' hbr=>?_⟩;have g6:=g5 p e j ks' r' hbr;subst hbr;obtain⟨L,_,hr⟩:=hm.blk i _ g3;obtain⟨_,_,_,_,_,Lp,kps,rp,hh,a,q1,_⟩:=hr;have hp:p<mem.length:=(A0.1 q1).1;refine⟨o_,?_⟩;rw[AQ (by rw[hk.len];exact hp)];exact hk.kept p g6 fun _ _ _ _ _ h=>by rw[q1]at h;cases h
  ·rw[hk.len]at g1;exact absurd g1 hi
 ·rcases hb with⟨ht,rfl⟩|⟨e,j,hb⟩
  ·rcases hown ht with h|⟨i,h1,h2⟩
   ·exact .inl h
   ·refine .inr ⟨i,h2,.inr fun c hc=>?_⟩;have hil:i<mem.length:=by
     obtain⟨_,blk,_,g,_⟩:=h2;exact(A0.1 g).1
    rw[AQ (by rw[hk.len];exact hil)]at hc;exact hdead i h1 c hc
  ·obtain⟨i,h1,h2⟩:=hOw e j b hb;refine .inr ⟨i,h2,.inr fun c hc=>?_⟩;have hil:i<mem.length:=by
    obtain⟨_,blk,_,g,_⟩:=h2;exact(A0.1 g).1
   rw[AQ (by rw[hk.len];exact hil)]at hc;exact hdead i h1 c hc
 ·exact hsame b hb (hpos b (fun i hi=>(ho i hi).2) hb)
 ·have hsub':∀e j b,NH r1.n r2.n s1 s2 e j=some b->w'.heap[b]? =w.heap[b]? :=fun e j b h=>by
   obtain⟨i,_,h2⟩:=hOw e j b h;exact hsame b (Df hm h2) fun _=>hne e j b h
  refine⟨rfl,rfl,rfl,hn,hblk,fun e j k he hk'=>⟨_,hcell e j k he hk',?_⟩,fun e j b hb=>?_,fun hmany e j e' j' b hb hb'=>?_⟩
  ·by_cases hen:e<r1.n
   ·have:=(d1 e j k hen hk').app_l (s:=r2) hen;rw[AM hen];have es:NH r1.n r2.n s1 s2 e j=s1 e j:=by unfold NH;rw[AM hen]
    show DCell B w' k (r1.app r2) e j false (NH r1.n r2.n s1 s2 e j) _;refine DCell.mono (fun b hb=>hsub' e j b hb) ?_;rw[es];exact this
   ·have he2:e-r1.n<r2.n:=by have:e<r1.n+r2.n:=he;omega
    have:=(d2 (e-r1.n) j k he2 hk').app_r (r:=r1) o_;rw[AL hen];have es:NH r1.n r2.n s1 s2 e j=s2 (e-r1.n) j:=by unfold NH;rw[AL hen,AM he2]
    show DCell B w' k (r1.app r2) e j false (NH r1.n r2.n s1 s2 e j) _;refine DCell.mono (fun b hb=>hsub' e j b hb) ?_;rw[es];exact this
  ·refine⟨?_,?_,rfl,hne e j b hb⟩
   ·show e<r1.n+r2.n;rcases hspec e j b hb with⟨g1,_⟩|⟨_,g1,_⟩<;>omega
   ·rcases hspec e j b hb with⟨g1,g2⟩|⟨_,g1,g2⟩
    ·exact(o1 e j b g1 g2).2
    ·exact(o2 _ j b g1 g2).2
  ·rcases hspec e j b hb with⟨g1,g2⟩|⟨g0,g1,g2⟩<;>rcases hspec e' j' b hb' with⟨k1,k2⟩|⟨k0,k1,k2⟩
   ·exact j1 hmany e j e' j' b g2 k2
   ·exact absurd (hm.inj _ _ b (o1 e j b g1 g2).1 (o2 _ j' b k1 k2).1) h12
   ·exact absurd (hm.inj _ _ b (o1 e' j' b k1 k2).1 (o2 _ j b g1 g2).1) h12
   ·have:=j2 hmany _ _ _ _ b g2 k2;exact⟨o_,this.2⟩
def Rw{L:Loc}{ks:List CK}{r:Row}{h:Option (Nat×Nat)}(hr:BlkR mem ρ w B L (.deep ks r h)):
  ∃v:Nat->Nat->Value,∀e j k,e<r.n->ks[j]? =some k->w.cell? ⟨L.b,L.off+e*ks.length+j,none⟩=some (v e j)∧DCell B w k r e j (Ej h e j) (L.sub e j) (v e j):=by
 obtain⟨h1,h2,h3,h4,h5,h6,h7,h8⟩:=hr;have key:∀e j,∃v,∀k,e<r.n->ks[j]? =some k->w.cell? ⟨L.b,L.off+e*ks.length+j,none⟩=some v∧DCell B w k r e j (Ej h e j) (L.sub e j) v:=by
  intro e j;by_cases he:e<r.n
  ·cases hk:ks[j]? with
   |none=>exact⟨undef,fun k _ h=>by cases h⟩
   |some k=>
    obtain⟨v,g1,g2⟩:=h6 e j k he hk;exact⟨v,fun k' _ h=>by cases h;exact⟨g1,g2⟩⟩
  ·exact⟨undef,fun k h _=>absurd h he⟩
 exact⟨fun e j=>Classical.choose (key e j),fun e j k he hk=>Classical.choose_spec (key e j) k he hk⟩
def Oq{b off n:Nat}{ks:List CK}{r:Row}{v:Nat->Nat->Value}{s:Nat->Nat->Option Nat}{hl:Nat->Nat->Bool}(hn:n<=r.n)(hv:∀e j k,e<r.n->ks[j]? =some k->w.cell? ⟨b,off+e*ks.length+j,none⟩=some (v e j)∧DCell B w k r e j (hl e j) (s e j) (v e j)):
  (∀i u,(Ai ks.length n v)[i]? =some u->w.cell? ⟨b,off+i,none⟩=some u)∧∀u∈Ai ks.length n v,u.oneCell'=true:=by
 have key:∀i u,(Ai ks.length n v)[i]? =some u->∃e j k,e<r.n∧ks[j]? =some k∧i=e*ks.length+j∧u=v e j:=by
  intro i u hu;have hi:i<n*ks.length:=by
   have:=(A0.1 hu).1;rw[Am]at this;exact this
  have hpos:0<ks.length:=by
   rcases Nat.eq_zero_or_pos ks.length with h0|h0
   ·rw[h0]at hi;omega
   ·exact h0
  have hj:i%ks.length<ks.length:=Nat.mod_lt _ hpos;have he:i/ks.length<n:=(Nat.div_lt_iff_lt_mul hpos).2 hi;have hsum:i/ks.length*ks.length+i%ks.length=i:=by have:=Nat.div_add_mod i ks.length;rw[Nat.mul_comm];exact this
  have hg:=CV (v:=v) he hj;rw[hsum,hu]at hg;exact⟨_,_,ks[i%ks.length],o_,AK hj,hsum.symm,Option.some.inj hg⟩
 constructor
 ·intro i u hu;obtain⟨e,j,k,h1,h2,h3,rfl⟩:=key i u hu;rw[h3,<-Nat.add_assoc];exact(hv e j k h1 h2).1
 ·intro u hu;obtain⟨i,hi⟩:=List.getElem?_of_mem hu;obtain⟨e,j,k,h1,h2,_,rfl⟩:=key i u hi;exact(hv e j k h1 h2).2.one
def Qm(hm:MemR mem ρ B w)(hB:B<=w.heap.size){st xt ty el:TypeId}{ei:TypeInfo}{z:Value}(ht:P.underlying st=some (.slice el))(hi:P.info? el=some ei)(hz:ei.zero=some z){ks:List CK}(hsz:ei.size=ks.length)
  (hzo:BR ks (Bc z)=true) (hbytes:ei.bytes<=1000) {s x cs cx:Value} {r:Row} {n:Nat} (hd:Sl mem ks s x=some (mem1,r,n)) (hxt:Ox P xt x=true) (hbound:n<=10000000000)
  (hs:V ρ mem.length s cs) (hx:V ρ mem.length x cx):
  ∃ρ' cv w',(Builtin.append_ #[st,xt] ty #[cs,cx]).run P w=.ok cv w'∧MemR (mem1++[some (.deep ks r none)]) ρ' B w'∧mem1.length=mem.length∧(∀i,i<mem.length->Less ρ ρ' i)∧
   V ρ' (mem.length+1) (sl0 n mem.length) cv∧∀W0:World,W0.heap.size=B->W0.heap.size<=w.heap.size->Below W0.heap.size W0 w->Below W0.heap.size W0 w':=by
 obtain⟨z1,z2⟩:=DC hzo;have hzs:z.cells.size=ks.length:=by rw[<-z1,<-Bi];simp
 unfold Sl at hd;split at hd
 case h_2=>cases hd
 rename_i id2 n2;obtain⟨el2,hu2⟩:∃el2,P.underlying xt=some (.slice el2):=by
  unfold Ox at hxt;split at hxt
  ·rename_i el _ _ _ h1 _;exact⟨el,h1⟩
  ·rename_i h2;cases h2
  ·cases hxt
 split at hd
 case h_2=>cases hd
 rename_i ksX r2 hb2;obtain⟨L2,hL2,hr2⟩:=hm.blk _ _ hb2;cases hx with
 |sliceDead g1 g2=>exact absurd g2 (BX hm hb2)
 |@slice _ _ _ L2' a2 cap2 g1 g2 g3 g4 g5 g6=>
 rw[hL2]at g2;cases g2;have hr2':=hr2;obtain⟨p1,p2,p3,p4,p5,p6,p7,p8⟩:=hr2';obtain⟨v2,hv2⟩:=Rw hr2;have hn2:n2<=r2.n:=o_;have hsrc:∀(hk:ksX=ks),Src P ks.length xt (.slice a2 n2 cap2) n2 (Ai ks.length n2 v2) w:=by
  intro hk;subst hk;obtain⟨c1,c2⟩:=Oq (n:=n2) hn2 hv2;rcases Nat.eq_zero_or_pos n2 with h0|h0
  ·subst h0;have hnil:Ai ksX.length 0 v2=[]:=by simp[Ai]
   rw[hnil];cases a2 with
   |none=>exact Src.ofNil (P:=P) w hu2 cap2
   |some a=>exact Src.ofSlice (P:=P) w hu2 a 0 cap2 [] y_ (fun j u hu=>by simp at hu) (fun u hu=>by simp at hu)
  ·rw[g5 h0];refine Src.ofSlice (P:=P) w hu2 _ n2 cap2 _ Am (fun j u hu=>?_) c2;have:=c1 j u hu;simp only[Loc.adr,Addr.add_lit];simpa using this
 have hO2:∀e j b,e<n2->L2.sub e j=some b->Az mem ρ id2 b∧∃s,ksX[j]? =some (.slice s):=fun e j b _ hb=>⟨⟨L2,_,hL2,hb2,rfl,.inr ⟨e,j,hb⟩⟩,(p7 e j b hb).2.1⟩;have hwin:∀(r:Row)(n:Nat) e j,SameC r (w_ r 0 n) e j:=fun r n e j=>⟨rfl,rfl,rfl,rfl⟩;have hd2:∀e j k,e<n2->ksX[j]? =some k->DCell B w k (w_ r2 0 n2) e j false (L2.sub e j) (v2 e j):=fun e j k he hk=>(hwin r2 n2 e j).dcell (hv2 e j k o_ hk).2;have grown:∀(r1:Row)(v1:Nat->Nat->Value)(cap tot e j:Nat)(k:CK),r1.n+n2<=tot->e<r1.n+n2->ksX[j]? =some k->
   ((Ai ksX.length r1.n v1++Ai ksX.length n2 v2).toArray++Builtin.zeroCells z.cells (tot-(r1.n+n2)))[e*ksX.length+j]? =some (if e<r1.n then v1 e j else v2 (e-r1.n) j):=by
  intro r1 v1 _ tot e j k htot he hk;have hj:j<ksX.length:=(A0.1 hk).1;have hlt:e*ksX.length+j<(r1.n+n2)*ksX.length:=by
   have:(e+1)*ksX.length<=(r1.n+n2)*ksX.length:=AH _ o_;rw[Nat.add_mul,Nat.one_mul]at this;omega
  rw[Array.getElem?_append,AM (by simp only[List.size_toArray,AG,Am];rw[<-Nat.add_mul];exact hlt)];simp only[List.getElem?_toArray];by_cases hen:e<r1.n
  ·have hl1:e*ksX.length+j<r1.n*ksX.length:=by
    have:(e+1)*ksX.length<=r1.n*ksX.length:=AH _ o_;rw[Nat.add_mul,Nat.one_mul]at this;omega
   rw[AM hen,AQ (by rw[Am];exact hl1)];exact CV hen hj
  ·have hge2:r1.n*ksX.length<=e*ksX.length:=AH _ o_;rw[AL hen,List.getElem?_append_right (by rw[Am];omega),Am];rw[show e*ksX.length+j-r1.n*ksX.length=(e-r1.n)*ksX.length+j by rw[Nat.sub_mul];omega];exact CV o_ hj
 have hsizes:∀(n:Nat)(v1:Nat->Nat->Value)(tot:Nat),n+n2<=tot->z.cells.size=ksX.length->tot*ksX.length<=((Ai ksX.length n v1++Ai ksX.length n2 v2).toArray++Builtin.zeroCells z.cells (tot-(n+n2))).size:=by
  intro n v1 tot h hzs;simp only[Array.size_append,List.size_toArray,AG,Am,Builtin.zeroCells,Array.size_map,Array.size_range,hzs];rw[Nat.sub_mul,<-Nat.add_mul];have:(n+n2)*ksX.length<=tot*ksX.length:=AH _ h;omega
 have hnewc:∀(c:Array Value)(T:TypeId)(i:Nat),(w.drew.alloc (.cells c T)).cell? ⟨w.heap.size,0+i,none⟩=c[i]? :=by
  intro c T i;have hg:(w.drew.alloc (.cells c T)).heap[w.heap.size]? =some (.cells c T (0,0)):=by
   show(w.heap.push _)[w.heap.size]? =_;simp
  simp only[World.cell?,hg,Option.isSome_none,Bool.false_eq_true,if_false,AE]
 have hnewh:∀(c:Array Value)(T:TypeId),(w.drew.alloc (.cells c T)).heap[w.heap.size]? =some (.cells c T (0,0)):=by
  intro c T;show(w.heap.push _)[w.heap.size]? =_;simp
 have hnewo:∀(c:Array Value)(T:TypeId)(b:Nat),b<w.heap.size->(w.drew.alloc (.cells c T)).heap[b]? =w.heap[b]? :=fun c T b hb=>by
  show(w.heap.push _)[b]? =_;rw[Array.getElem?_push,AL o_]
 have hnews:∀(c:Array Value)(T:TypeId),w.heap.size<=(w.drew.alloc (.cells c T)).heap.size:=fun c T=>by
  show _<=(w.heap.push _).size;simp
 split at hd
 ·
  rename_i hkk;cases CS hkk;cases hd;cases hs;rename_i a0;have hK:=(Killed.refl mem).step id2;rcases Nat.eq_zero_or_pos n2 with h0|h0
  ·subst h0;have hrun:=run_append_nothing (P:=P) w st xt ty el ei ht hi a0 0 0 (AC _) (.slice a2 0 cap2) (by
    rw[hsz];have:Ai ks.length 0 v2=[]:=by simp[Ai]
    rw[<-this];exact hsrc rfl)
   obtain⟨ρ',m1,m2,m3⟩:=Jd (w':=w) hm hK (ks:=ks) (r1:=.nil) (r2:=w_ r2 0 0) (v1:=fun _ _=>undef) (v2:=v2) (s1:=s0) (s2:=L2.sub) (i1:=id2+1) (i2:=id2) o_ (fun⟨_,_,_,_,h⟩=>by cases h) (.inl rfl) (fun e j k he=>by simp[Row.n]at he) (fun e j k he=>by rw[wn_]at he;omega) (fun e j b _ h=>by cases h) (fun e j b he=>by rw[wn_]at he;omega)
    (fun _ e j e' j' b h=>by cases h) p8 (b':=0) (off':=0) (tot:=0) (AC _) (fun h=>o_) (fun h=>o_) (fun e j b h=>by
     rcases h with⟨_,h⟩|⟨h,_⟩
     ·cases h
     ·rw[wn_]at h;omega) (fun b _ _=>rfl) (fun e j k he=>by rw[wn_]at he;simp[Row.n]at he) (by rw[wn_];simp[Row.n])
   refine⟨ρ',_,w,hrun,m1,hK.len,m2,?_,fun W0 _ _ h=>h⟩;exact .slice o_ m3 y_ (AC _) (fun h=>o_) (fun _=>⟨y_,.inl rfl⟩)
  ·have hrun:=run_append_grow_src (P:=P) w st xt ty el ei z ht hi hz a0 0 0 [] (by
    cases a0 with
    |none=>exact run_firstCells_none _ _ _ _ _
    |some a=>exact run_firstCells_some _ _ 0 _ _ _ [] y_ (fun j v hv=>by simp at hv)) (.slice a2 n2 cap2) n2 _ (by rw[hsz];exact hsrc rfl) o_ o_ (by
    have hcap:=nextslicecap_le (need:=0+n2) (old:=0) o_;have:Builtin.nextslicecap (0+n2) 0*ei.bytes<=(2*(0+n2))*1000:=Nat.mul_le_mul hcap hbytes;omega)
   have hge:=grownCap_ge w (0+n2) 0 el;have hnil:Ai ks.length 0 (fun _ _=>undef)=[]:=by simp[Ai]
   have hg1:=grown .nil (fun _ _=>undef) 0 (grownCap w (0+n2) 0 el);have hg2:=hsizes 0 (fun _ _=>undef) (grownCap w (0+n2) 0 el) hge hzs;rw[hnil,List.nil_append]at hg2;have e0:(Row.nil).n=0:=rfl;rw[e0,hnil,List.nil_append]at hg1;rw[List.nil_append]at hrun;obtain⟨ρ',m1,m2,m3⟩:=Jd (w':=w.drew.alloc (.cells ((Ai ks.length n2 v2).toArray++Builtin.zeroCells z.cells (grownCap w (0+n2) 0 el-(0+n2))) el)) hm hK (ks:=ks) (r1:=.nil) (r2:=w_ r2 0 n2) (v1:=fun _ _=>undef) (v2:=v2) (s1:=s0) (s2:=L2.sub) (i1:=id2+1) (i2:=id2) o_
    (fun⟨_,_,_,_,h⟩=>by cases h) (.inl rfl) (fun e j k he=>by simp[Row.n]at he) (fun e j k he=>hd2 e j k (by rw[wn_]at he;exact he)) (fun e j b _ h=>by cases h) (fun e j b he=>hO2 e j b (by rw[wn_]at he;exact he))
    (fun _ e j e' j' b h=>by cases h) p8 (b':=w.heap.size) (off':=0) (tot:=grownCap w (0+n2) 0 el) (hnews _ _) (fun _=>⟨hB,_,_,hnewh _ _,by simpa using hg2⟩) (fun _=>.inl (AC _)) (fun e j b h=>by
     rcases h with⟨_,h⟩|⟨h1,h⟩
     ·cases h
     ·have:=Df hm (hO2 e j b (by rw[wn_]at h1;exact h1) h).1;omega) (fun b hb _=>hnewo _ _ b hb) (fun e j k he hk=>by
     rw[Nat.add_assoc,hnewc];rw[wn_]at he;exact hg1 e j k hge he hk) (by rw[wn_];exact hge)
   refine⟨ρ',_,_,hrun,m1,hK.len,m2,?_,fun W0 _ hW hb=>(hb.drew).alloc (by simpa using hW) _⟩;rw[wn_]at m3;exact .slice o_ m3 (by simp[Row.n]) hge (fun _=>by simp[Loc.adr]) (fun _=>⟨y_,.inr (by simp[Loc.adr])⟩)
 ·
  rename_i id n1 hkk;cases CS hkk;split at hd
  case h_2=>cases hd
  rename_i ksY r1 hb1;split at hd
  case h_2=>cases hd
  rename_i hne;rw[A2]at hne;cases CS hne.1;have hnid:id≠id2:=fun h=>by rw[h]at hne;simp at hne
  cases hd;obtain⟨L1,hL1,hr1⟩:=hm.blk _ _ hb1;cases hs with
  |sliceDead q1 q2=>exact absurd q2 (BX hm hb1)
  |@slice _ _ _ L1' a cap q1 q2 q3 q4 q5 q6=>
  rw[hL1]at q2;cases q2;have hr1':=hr1;obtain⟨u1,u2,u3,u4,u5,u6,u7,u8⟩:=hr1';obtain⟨v1,hv1⟩:=Rw hr1;obtain⟨q7,q8⟩:=q6 u3;have hn1:n1<=r1.n:=o_;have hK:=((Killed.refl mem).step id2).step id;have hO1:∀e j b,e<n1->L1.sub e j=some b->Az mem ρ id b∧∃s,ks[j]? =some (.slice s):=fun e j b _ hb=>⟨⟨L1,_,hL1,hb1,rfl,.inr ⟨e,j,hb⟩⟩,(u7 e j b hb).2.1⟩;have hd1:∀e j k,e<n1->ks[j]? =some k->DCell B w k (w_ r1 0 n1) e j false (L1.sub e j) (v1 e j):=fun e j k he hk=>(hwin r1 n1 e j).dcell (hv1 e j k o_ hk).2;obtain⟨c1,c2⟩:=Oq (n:=n1) hn1 hv1;have hsubne:∀e j b,(e<(w_ r1 0 n1).n∧L1.sub e j=some b)∨(e<(w_ r2 0 n2).n∧L2.sub e j=some b)->0<L1.tot->b≠L1.b:=by
   intro e j b h ht;rcases h with⟨_,h⟩|⟨h1,h⟩
   ·exact(u7 e j b h).2.2.2
   ·intro he;rw[wn_]at h1;have h2:=(hO2 e j b h1 h).1;exact hnid (hm.inj id id2 b (he▸⟨L1,_,hL1,hb1,rfl,.inl ⟨ht,rfl⟩⟩) h2)
  by_cases hfit:n1+n2<=cap
  ·have htot:n1+n2<=L1.tot:=o_;have core:∀w':World,w'.heap.size=w.heap.size->(∀b,(0<L1.tot->b≠L1.b)->w'.heap[b]? =w.heap[b]?)->(0<L1.tot->∃(c:Array Value)(T:TypeId),w'.heap[L1.b]? =some (.cells c T (0,0))∧L1.off+L1.tot*ks.length<=c.size)->
     (∀e j k,e<n1+n2->ks[j]? =some k->w'.cell? ⟨L1.b,L1.off+e*ks.length+j,none⟩=some (if e<n1 then v1 e j else v2 (e-n1) j))->
     ∃ρ',MemR (OT id (OT id2 mem)++[some (.deep ks ((w_ r1 0 n1).app (w_ r2 0 n2)) none)]) ρ' B w'∧(∀i,i<mem.length->Less ρ ρ' i)∧V ρ' (mem.length+1) (sl0 (n1+n2) mem.length) (.slice a (n1+n2) cap):=by
    intro w' k1 k2 k3 k4;obtain⟨ρ',m1,m2,m3⟩:=Jd (w':=w') hm hK (ks:=ks) (r1:=w_ r1 0 n1) (r2:=w_ r2 0 n2) (v1:=v1) (v2:=v2) (s1:=L1.sub) (s2:=L2.sub) (i1:=id) (i2:=id2) hnid (fun _=>.inl rfl) (.inr (.inl rfl))
     (fun e j k he=>hd1 e j k (by rw[wn_]at he;exact he)) (fun e j k he=>hd2 e j k (by rw[wn_]at he;exact he)) (fun e j b he=>hO1 e j b (by rw[wn_]at he;exact he)) (fun e j b he=>hO2 e j b (by rw[wn_]at he;exact he))
     u8 p8 (b':=L1.b) (off':=L1.off) (tot:=L1.tot) o_ (fun ht=>⟨(u5 ht).1,k3 ht⟩) (fun ht=>.inr ⟨id,.inl rfl,L1,_,hL1,hb1,rfl,.inl ⟨ht,rfl⟩⟩) (fun e j b h=>hsubne e j b h (by
      rcases h with⟨h,_⟩|⟨h,_⟩<;>rw[wn_]at h<;>omega)) (fun b _ h=>k2 b h) (fun e j k he hk=>by
      rw[wn_,wn_]at he;rw[wn_];exact k4 e j k he hk) (by rw[wn_,wn_];exact htot)
    rw[wn_,wn_]at m3;refine⟨ρ',m1,m2,.slice o_ m3 y_ hfit (fun hp=>?_) (fun _=>⟨z_,?_⟩)⟩
    ·rcases q8 with q8|q8
     ·omega
     ·rw[q8];simp[Loc.adr]
    ·rcases q8 with q8|q8
     ·exact .inl q8
     ·right;rw[q8];simp[Loc.adr]
   rcases Nat.eq_zero_or_pos n2 with h0|h0
   ·subst h0;have hrun:=run_append_nothing (P:=P) w st xt ty el ei ht hi a n1 cap o_ (.slice a2 0 cap2) (by
     rw[hsz];have:Ai ks.length 0 v2=[]:=by simp[Ai]
     rw[<-this];exact hsrc rfl)
    obtain⟨ρ',m1,m2,m3⟩:=core w rfl (fun _ _=>rfl) (fun ht=>by
     obtain⟨_,c,T,h1,h2⟩:=u5 ht;exact⟨c,T,h1,by rw[<-u2];exact h2⟩) (fun e j k he hk=>by
     rw[AM o_];exact(hv1 e j k o_ hk).1)
    exact⟨ρ',_,w,hrun,m1,hK.len,m2,m3,fun W0 _ _ h=>h⟩
   ·have ha:a=some (L1.adr 0 0):=by
     rcases q8 with q8|q8
     ·omega
     ·exact q8
    obtain⟨b8,c,T,b9,b10⟩:=u5 o_;rw[u2]at b10;have hcapn:n1*ks.length+n2*ks.length<=L1.tot*ks.length:=by rw[<-Nat.add_mul];exact AH _ htot
    have hin:L1.off+n1*ks.length+(Ai ks.length n2 v2).length<=c.size:=by rw[Am];omega
    have hrun:=run_append_room_src (P:=P) w st xt ty el ei ht hi L1.b L1.off n1 cap (.slice a2 n2 cap2) n2 _ (by rw[hsz];exact hsrc rfl) hfit (fun j hj=>by
      rw[hsz];simp[World.cell?,b9];omega) (fun j hj=>by simp[World.frozen?,b9])
    rw[hsz]at hrun;obtain⟨c',t1,t2,t3,t4,t5⟩:=CQ (Ai ks.length n2 v2) (L1.off+n1*ks.length) w c b9 hin;obtain⟨ρ',m1,m2,m3⟩:=core _ t5 (fun b hb=>t4 b (hb o_)) (fun _=>⟨c',T,t1,o_⟩) (fun e j k he hk=>by
     have hj:j<ks.length:=(A0.1 hk).1;simp only[World.cell?,t1,Option.isSome_none,Bool.false_eq_true,if_false,t3];by_cases hen:e<n1
     ·have hlt:e*ks.length+j<n1*ks.length:=by
       have:(e+1)*ks.length<=n1*ks.length:=AH _ o_;rw[Nat.add_mul,Nat.one_mul]at this;omega
      rw[AL o_,AM hen];have:=(hv1 e j k o_ hk).1;simpa [World.cell?,b9]using this
     ·have hge2:n1*ks.length<=e*ks.length:=AH _ o_;have hlt:e*ks.length+j<(n1+n2)*ks.length:=by
       have:(e+1)*ks.length<=(n1+n2)*ks.length:=AH _ o_;rw[Nat.add_mul,Nat.one_mul]at this;omega
      rw[Nat.add_mul]at hlt;rw[AM (by rw[Am];omega),AL hen];rw[show L1.off+e*ks.length+j-(L1.off+n1*ks.length)=(e-n1)*ks.length+j by rw[Nat.sub_mul];omega];exact CV o_ hj)
    rw[ha]at m3;refine⟨ρ',_,_,?_,m1,hK.len,m2,m3,fun W0 hW _ h=>below_setCells h (by rw[hW];exact b8)⟩;rw[ha];simpa [Loc.adr]using hrun
  ·have hold:(Builtin.firstCells ei.size n1 (.slice a n1 cap)).run P w.drew=.ok (Ai ks.length n1 v1).toArray w.drew:=by
    rw[hsz];rcases Nat.eq_zero_or_pos n1 with h0|h0
    ·subst h0;have:Ai ks.length 0 v1=[]:=by simp[Ai]
     rw[this];cases a with
     |none=>exact run_firstCells_none _ _ _ _ _
     |some a=>exact run_firstCells_some _ _ 0 _ _ _ [] y_ (fun j v hv=>by simp at hv)
    ·rw[q5 h0];refine run_firstCells_some w.drew _ n1 _ _ _ _ Am (fun j v hv=>?_);have:=c1 j v hv;simp only[Loc.adr,Addr.add_lit];simpa using this
   have hrun:=run_append_grow_src (P:=P) w st xt ty el ei z ht hi hz a n1 cap _ hold (.slice a2 n2 cap2) n2 _ (by rw[hsz];exact hsrc rfl) o_ o_ (by
    have hcap:=nextslicecap_le (need:=n1+n2) (old:=cap) o_;have:Builtin.nextslicecap (n1+n2) cap*ei.bytes<=(2*(n1+n2))*1000:=Nat.mul_le_mul hcap hbytes;omega)
   have hge:=grownCap_ge w (n1+n2) cap el;have hg1:=grown (w_ r1 0 n1) v1 0 (grownCap w (n1+n2) cap el);have hg2:=hsizes n1 v1 (grownCap w (n1+n2) cap el) hge hzs;rw[wn_]at hg1;obtain⟨ρ',m1,m2,m3⟩:=Jd (w':=w.drew.alloc (.cells ((Ai ks.length n1 v1++Ai ks.length n2 v2).toArray++Builtin.zeroCells z.cells (grownCap w (n1+n2) cap el-(n1+n2))) el)) hm hK (ks:=ks) (r1:=w_ r1 0 n1) (r2:=w_ r2 0 n2) (v1:=v1) (v2:=v2) (s1:=L1.sub) (s2:=L2.sub) (i1:=id) (i2:=id2) hnid
    (fun _=>.inl rfl) (.inr (.inl rfl)) (fun e j k he=>hd1 e j k (by rw[wn_]at he;exact he)) (fun e j k he=>hd2 e j k (by rw[wn_]at he;exact he)) (fun e j b he=>hO1 e j b (by rw[wn_]at he;exact he)) (fun e j b he=>hO2 e j b (by rw[wn_]at he;exact he))
    u8 p8 (b':=w.heap.size) (off':=0) (tot:=grownCap w (n1+n2) cap el) (hnews _ _) (fun _=>⟨hB,_,_,hnewh _ _,by simpa using hg2⟩) (fun _=>.inl (AC _)) (fun e j b h=>by
     rcases h with⟨h1,h⟩|⟨h1,h⟩<;>rw[wn_]at h1
     ·have:=Df hm (hO1 e j b h1 h).1;omega
     ·have:=Df hm (hO2 e j b h1 h).1;omega) (fun b hb _=>hnewo _ _ b hb) (fun e j k he hk=>by
     rw[Nat.add_assoc,hnewc];rw[wn_,wn_]at he;rw[wn_];exact hg1 e j k hge he hk) (by rw[wn_,wn_];exact hge)
   refine⟨ρ',_,_,hrun,m1,hK.len,m2,?_,fun W0 _ hW hb=>(hb.drew).alloc (by simpa using hW) _⟩;rw[wn_,wn_]at m3;exact .slice o_ m3 y_ hge (fun _=>by simp[Loc.adr]) (fun _=>⟨y_,.inr (by simp[Loc.adr])⟩)
 ·cases hd
end
end Go.Ev

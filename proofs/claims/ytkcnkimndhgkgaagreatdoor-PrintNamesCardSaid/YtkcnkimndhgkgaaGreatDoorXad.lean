/- Part of a proof of a statement of this seat. No conditions. -/
import Derived.Test.YtkcnkimndhgkgaaGreatDoorXac
import Derived.Laws.IdiomStrings
set_option linter.all false
namespace Go.Ev
open Go.RowKit
section
variable{P:Program}{mem mem':List (Option Blk)}{ρ ρ':Map}{B:Nat}{w w':World}
theorem MemR.upd(h:MemR mem ρ B w){q:Nat}{blk:Blk}{L:Loc}(hlen:mem.length<=mem'.length)(hq:mem'[q]? =some (some blk))
  (hD:∀(i:Nat)(b:Blk),i≠q->mem'[i]? =some (some b)->mem[i]? =some (some b)∧∀p e j ks r,b=.bor p e j ks r->p≠q∧mem'[p]? =mem[p]?)
  (hfoot:∀b,L.foot b->w.heap.size<=b∨∃i,Owned mem ρ i b∧(i=q∨∀c,mem'[i]? ≠some (some c))) (hsz:w.heap.size<=w'.heap.size)
  (hsame:∀b,b<w.heap.size->(∀i,Owned mem ρ i b->i≠q∧∃c,mem'[i]? =some (some c))->w'.heap[b]? =w.heap[b]?) (hr:∀ρ',BlkR mem' ρ' w' B L blk)
  (hless:q<mem.length->∃M o sub,ρ q=some M∧L={M with own:=o,sub:=sub}∧(o=true->M.own=true)):
  ∃ρ',MemR mem' ρ' B w'∧(∀i,i<mem.length->Less ρ ρ' i)∧ρ' q=some L:=by
 let ρn:Map:=fun i=>if i=q then some L else match mem'[i]? with|some (some _)=>ρ i|_=>none
 have nq:ρn q=some L:=by simp[ρn]
 have nold:∀i b,i≠q->mem'[i]? =some (some b)->ρn i=ρ i:=fun i b hi hb=>by simp[ρn,hi,hb]
 have ndead:∀i,i≠q->(∀b,mem'[i]? ≠some (some b))->ρn i=none:=fun i hi hb=>by
  show(if i=q then some L else match mem'[i]? with|some (some _)=>ρ i|_=>none)=none
  rw[AL hi];cases hm:mem'[i]? with
  |none=>rfl
  |some c=>
   cases c with
   |none=>rfl
   |some c=>exact absurd hm (hb c)
 have hown:∀i b,Owned mem' ρn i b->(i=q∧L.foot b)∨(i≠q∧Owned mem ρ i b∧∃c,mem'[i]? =some (some c)):=by
  intro i b ⟨M,c,g1,g3,g4,g2⟩;by_cases hi:i=q
  ·subst hi;rw[nq]at g1;cases g1;exact .inl ⟨rfl,g2⟩
  ·rw[nold i c hi g3]at g1;exact .inr ⟨hi,⟨M,c,g1,(hD i c hi g3).1,g4,g2⟩,c,g3⟩
 have hok:∀b,okB mem ρ w b->okB mem' ρn w' b∧w'.heap[b]? =w.heap[b]? :=by
  intro b ⟨h1,h2⟩;refine⟨⟨by omega,fun i ho=>?_⟩,hsame b h1 fun i ho=>absurd ho (h2 i)⟩;rcases hown i b ho with⟨_,g⟩|⟨_,g,_⟩
  ·rcases hfoot b g with g|⟨i',g,_⟩
   ·omega
   ·exact h2 i' g
  ·exact h2 i g
 have hkeep:∀i b,i≠q->(∃c,mem'[i]? =some (some c))->Owned mem ρ i b->w'.heap[b]? =w.heap[b]? :=by
  intro i b hi hc ho;refine hsame b (own_lt h ho) fun i' ho'=>?_;obtain rfl:=h.inj i i' b ho ho';exact⟨hi,hc⟩
 refine⟨ρn,h.step hlen (fun i hi=>?_) hok (fun i b hi=>?_) (fun i hi=>?_) (fun i j b hi hj=>?_),fun i hi=>?_,nq⟩
 ·by_cases hiq:i=q
  ·subst hiq;obtain⟨M,o,sub,g1,g2,g3⟩:=hless hi;exact .inr (.inr ⟨M,o,sub,g1,by rw[nq,g2],g3⟩)
  ·cases hm:mem'[i]? with
   |none=>exact .inr (.inl (ndead i hiq fun b hb=>by rw[hm]at hb;cases hb))
   |some c=>
    cases c with
    |none=>exact .inr (.inl (ndead i hiq fun b hb=>by rw[hm]at hb;cases hb))
    |some c=>exact .inl (nold i c hiq hm)
 ·by_cases hiq:i=q
  ·subst hiq;rw[hq]at hi;cases hi;exact .inr ⟨L,nq,hr ρn⟩
  ·obtain⟨g1,g2⟩:=hD i b hiq hi;refine .inl ⟨g1,nold i b hiq hi,fun M hM ho c hc=>hkeep i c hiq ⟨b,hi⟩ ⟨M,b,hM,g1,ho,hc⟩,fun p e j ks r hb kps rp hh Lp q1 q2=>?_⟩;obtain⟨g3,g4⟩:=g2 p e j ks r hb;have q3:=g4.trans q1;exact⟨q3,(nold p _ g3 q3).trans q2,fun ht=>hkeep p Lp.b g3 ⟨_,q3⟩ ⟨Lp,_,q2,q1,rfl,.inl ⟨ht,rfl⟩⟩⟩
 ·have hiq:i≠q:=by
   rintro rfl;exact hi blk hq
  exact ndead i hiq hi
 ·rcases hown i b hi with⟨rfl,p2⟩|⟨p1,p2,p3⟩<;>rcases hown j b hj with⟨rfl,q2⟩|⟨q1,q2,q3⟩
  ·rfl
  ·rcases hfoot b p2 with g|⟨i',g,g'⟩
   ·have:=own_lt h q2;omega
   ·obtain rfl:=h.inj i' j b g q2;rcases g' with rfl|g'
    ·exact absurd rfl q1
    ·obtain⟨c,hc⟩:=q3;exact absurd hc (g' c)
  ·rcases hfoot b q2 with g|⟨i',g,g'⟩
   ·have:=own_lt h p2;omega
   ·obtain rfl:=h.inj i' i b g p2;rcases g' with rfl|g'
    ·exact absurd rfl p1
    ·obtain⟨c,hc⟩:=p3;exact absurd hc (g' c)
  ·exact h.inj i j b p2 q2
 ·by_cases hiq:i=q
  ·subst hiq;obtain⟨M,o,sub,g1,g2,g3⟩:=hless hi;exact .inr (.inr ⟨M,o,sub,g1,by rw[nq,g2],g3⟩)
  ·cases hm:mem'[i]? with
   |none=>exact .inr (.inl (ndead i hiq fun b hb=>by rw[hm]at hb;cases hb))
   |some c=>
    cases c with
    |none=>exact .inr (.inl (ndead i hiq fun b hb=>by rw[hm]at hb;cases hb))
    |some c=>exact .inl (nold i c hiq hm)
def Fewer(mem mem':List (Option Blk)):Prop:=mem'.length=mem.length∧∀i:Nat,mem'[i]? =mem[i]? ∨mem'[i]? =some none∧∃ks r,mem[i]? =some (some (.row ks true r))
theorem Fewer.refl(mem:List (Option Blk)):Fewer mem mem:=⟨rfl,fun _=>.inl rfl⟩
theorem Fewer.trans{m1 m2 m3:List (Option Blk)}(h:Fewer m1 m2)(k:Fewer m2 m3):Fewer m1 m3:=⟨k.1.trans h.1,fun i=>by
 rcases k.2 i with k1|⟨k1,ks,r,k2⟩
 ·rcases h.2 i with h1|⟨h1,h2⟩
  ·exact .inl (k1.trans h1)
  ·exact .inr ⟨k1.trans h1,h2⟩
 ·rcases h.2 i with h1|⟨h1,h2⟩
  ·exact .inr ⟨k1,ks,r,h1▸k2⟩
  ·exact .inr ⟨k1,h2⟩⟩
theorem Fewer.get(h:Fewer mem mem'){i:Nat}{b:Blk}(hb:mem'[i]? =some (some b)):mem[i]? =some (some b):=by
 rcases h.2 i with h1|⟨h1,_⟩
 ·rw[<-h1];exact hb
 ·rw[hb]at h1;cases h1
def SameC(r r1:Row)(e j:Nat):Prop:=r1.I e j=r.I e j∧r1.B e j=r.B e j∧r1.S e j=r.S e j∧r1.R e j=r.R e j
theorem SameC.trans{r r1 r2:Row}{e j:Nat}(h:SameC r r1 e j)(k:SameC r1 r2 e j):SameC r r2 e j:=⟨k.1.trans h.1,k.2.1.trans h.2.1,k.2.2.1.trans h.2.2.1,k.2.2.2.trans h.2.2.2⟩
theorem SameC.dcell{r r1:Row}{e j:Nat}(h:SameC r r1 e j){k:CK}{hole:Bool}{ob:Option Nat}{v:Value}(hd:DCell B w k r e j hole ob v):DCell B w k r1 e j hole ob v:=by
 obtain⟨h1,h2,h3,h4⟩:=h;cases k with
 |slice sub=>exact⟨hd.1,hd.2.1,fun hh=>by rw[h4];exact hd.2.2 hh⟩
 |int k=>exact CellR.congr h1 h2 h3 h4 hd
 |bool=>exact CellR.congr h1 h2 h3 h4 hd
 |str=>exact CellR.congr h1 h2 h3 h4 hd
 |other=>exact CellR.congr h1 h2 h3 h4 hd
theorem setDeep1_sound(hm:MemR mem ρ B w){m1 m2:List (Option Blk)}(hf:Fewer mem m1){r r1:Row}{e j:Nat}{ck:CK}{x c:Value}(h:setDeep1 m1 r e j ck x=some (r1,m2))(hv:V ρ mem.length x c):
  ∃ob:Option Nat,r1.n=r.n∧Fewer m1 m2∧(∀e' j',(e'≠e∨j'≠j)->SameC r r1 e' j')∧DCell B w ck r1 e j false ob c∧
   ∀b,ob=some b->(∃s,ck=.slice s)∧∃id,Owned mem ρ id b∧(∃blk,m1[id]? =some (some blk))∧m2[id]? =some none:=by
 have hI:∀n e' j',(e'≠e∨j'≠j)->SameC r (r.setI e j n) e' j':=fun n e' j' hne=>⟨by simp only[Row.setI,Row.I,miss hne,cond_false],rfl,rfl,rfl⟩;have hB:∀n e' j',(e'≠e∨j'≠j)->SameC r (r.setB e j n) e' j':=fun n e' j' hne=>⟨rfl,by simp only[Row.setB,Row.B,miss hne,cond_false],rfl,rfl⟩;have hS:∀n e' j',(e'≠e∨j'≠j)->SameC r (r.setS e j n) e' j':=fun n e' j' hne=>⟨rfl,rfl,by simp only[Row.setS,Row.S,miss hne,cond_false],rfl⟩;have hR:∀n e' j',(e'≠e∨j'≠j)->SameC r (r.setR e j n) e' j':=fun n e' j' hne=>⟨rfl,rfl,rfl,by simp only[Row.setR,Row.R,miss hne,cond_false]⟩;unfold setDeep1 at h;split at h
 ·rename_i k k' n;split at h
  ·rename_i hs;cases h;cases same_eq hs;cases hv;refine⟨none,rfl,.refl _,hI n,?_,fun b hb=>by cases hb⟩;have:(r.setI e j n).I e j=n:=by simp only[Row.setI,Row.I,hit,cond_true]
   have h2:=@CellR.int (fun _=>False) w k (r.setI e j n) e j;rw[this]at h2;exact h2
  ·cases h
 ·rename_i b;cases h;cases hv;refine⟨none,rfl,.refl _,hB b,?_,fun b hb=>by cases hb⟩;have:(r.setB e j b).B e j=b:=by simp only[Row.setB,Row.B,hit,cond_true]
  have h2:=@CellR.bool (fun _=>False) w (r.setB e j b) e j;rw[this]at h2;exact h2
 ·rename_i s;cases h;cases hv;refine⟨none,rfl,.refl _,hS s,?_,fun b hb=>by cases hb⟩;have:(r.setS e j s).S e j=s:=by simp only[Row.setS,Row.S,hit,cond_true]
  have h2:=@CellR.str (fun _=>False) w (r.setS e j s) e j;rw[this]at h2;exact h2
 ·rename_i sub;split at h
  ·rename_i hfl;cases h;cases hv;have hRn:(r.setR e j .nil).R e j=.nil:=by simp only[Row.setR,Row.R,hit,cond_true]
   exact⟨none,rfl,.refl _,hR _,⟨hfl,rfl,fun _=>⟨_,0,by rw[hRn];rfl,by rw[hRn];exact AC _,.inl ⟨rfl,rfl⟩⟩⟩,fun b hb=>by cases hb⟩
  ·cases h
 ·rename_i sub id e' len;split at h
  ·rename_i ks s hb;split at h
   ·rename_i hk;rw[A2]at hk;cases cksEq_eq hk.1;cases h;have hb0:=hf.get hb;obtain⟨L,hL,hbr⟩:=hm.blk _ _ hb0;obtain⟨b1,b2,b3,b4,b0⟩:=hbr;obtain⟨b5,b6,b7⟩:=b3 rfl;have hRn:(r.setR e j (winOf s e' len)).R e j=winOf s e' len:=by simp only[Row.setR,Row.R,hit,cond_true]
    have hlt:id<m1.length:=(A0.1 hb).1;have hfew:Fewer m1 (m1.set id none):=⟨by simp,fun i=>by
     by_cases hi:i=id
     ·subst hi;exact .inr ⟨by rw[List.getElem?_set_self hlt],_,_,hb⟩
     ·exact .inl (List.getElem?_set_ne fun h=>hi h.symm)⟩
    cases hv with
    |sliceDead h1 h2=>exact absurd h2 (live_of hm hb0)
    |@slice _ _ _ M a cap h1 h2 h3 h4 h5 h6=>
     rw[hL]at h2;cases h2;obtain⟨h7,h8⟩:=h6 b5;refine⟨if cap=0 then none else some L.b,rfl,hfew,hR _,⟨hk.2,rfl,fun _=>⟨a,cap,by rw[hRn,winOf_n],by rw[hRn,winOf_n];exact h4,?_⟩⟩,fun b hob=>?_⟩
     ·by_cases hc:cap=0
      ·exact .inl ⟨hc,AM hc⟩
      ·rw[AL hc];have ha:a=some (L.adr e' 0):=by
        rcases h8 with h8|h8
        ·exact absurd h8 hc
        ·exact h8
       obtain⟨b8,c,T,b9,b10⟩:=b7 (by omega);have htot:e'*L.sz+cap*L.sz<=L.tot*L.sz:=by rw[<-Nat.add_mul];exact AH _ h7
       refine .inr ⟨L.b,L.off+e'*L.sz,c,T,rfl,ha,b8,b9,by rw[<-b2];omega,?_⟩;rw[hRn];rcases Nat.eq_zero_or_pos len with h0|h0
       ·subst h0;exact .mk (fun _ _=>undef) (fun e j k he=>by rw[winOf_n]at he;omega) (fun e j k he=>by rw[winOf_n]at he;omega)
       ·have:=((b4 (by omega)).2).winOf (e0:=e') (n:=len) (by omega);rw[<-b2]at this;exact this.plain hk.2
     ·split at hob
      ·cases hob
      ·rename_i hc;cases hob;exact⟨⟨_,rfl⟩,id,⟨L,_,hL,hb0,rfl,.inl ⟨by omega,rfl⟩⟩,⟨_,hb⟩,by rw[List.getElem?_set_self hlt]⟩
   ·cases h
  ·cases h
 ·cases h
theorem setDeeps_sound(hm:MemR mem ρ B w){e:Nat}:∀(xs:List Value)(m1 m2:List (Option Blk))(r r1:Row)(j:Nat)(ks:List CK)(cs:List Value),Fewer mem m1->setDeeps m1 r e j ks xs=some (r1,m2)->cs.length=xs.length->
  (∀(i:Nat)(x c:Value),xs[i]? =some x->cs[i]? =some c->V ρ mem.length x c)->
  ∃ob:Nat->Option Nat,r1.n=r.n∧xs.length<=ks.length∧Fewer m1 m2∧(∀e' j',(e'≠e∨j'<j∨j+xs.length<=j')->SameC r r1 e' j')∧
   (∀(i:Nat)(k:CK)(c:Value),ks[i]? =some k->cs[i]? =some c->DCell B w k r1 e (j+i) false (ob i) c)∧
   (∀i b,ob i=some b->i<xs.length∧(∃s,ks[i]? =some (.slice s))∧∃id,Owned mem ρ id b∧(∃blk,m1[id]? =some (some blk))∧m2[id]? =some none)∧
   ∀i i' b,ob i=some b->ob i'=some b->i=i'
 |[],m1,m2,r,r1,j,ks,cs,hf,h,hl,hv=>by
  have:r=r1∧m1=m2:=by
   cases ks<;>simp[setDeeps]at h<;>exact h
  obtain⟨rfl,rfl⟩:=this;have hcs:cs=[]:=by simpa using hl
  subst hcs;exact⟨fun _=>none,rfl,by simp,.refl _,fun _ _ _=>⟨rfl,rfl,rfl,rfl⟩,fun i k c _ hc=>by simp at hc,(fun i b hb=>by cases hb),(fun i i' b hb=>by cases hb)⟩
 |x::xs,m1,m2,r,r1,j,[],cs,hf,h,hl,hv=>by simp[setDeeps]at h
 |x::xs,m1,m2,r,r1,j,ck::ks,[],hf,h,hl,hv=>by simp at hl
 |x::xs,m1,m2,r,r1,j,ck::ks,c::cs,hf,h,hl,hv=>by
  simp only[setDeeps]at h;split at h
  ·rename_i r2 m3 h1;obtain⟨o0,g1,g2,g3,g4,g5⟩:=setDeep1_sound hm hf h1 (hv 0 x c rfl rfl);obtain⟨ob,k1,k2,k3,k4,k5,k6,k7⟩:=setDeeps_sound hm xs m3 m2 r2 r1 (j+1) ks cs (hf.trans g2) h (by simpa using hl) (fun i x' c' hx hc=>hv (i+1) x' c' (by simpa using hx) (by simpa using hc));refine⟨fun i=>match i with|0=>o0|i+1=>ob i,k1.trans g1,by simpa using k2,g2.trans k3,fun e' j' hne=>?_,fun i k c' hk hc=>?_,fun i b hb=>?_,fun i i' b hb hb'=>?_⟩
   ·refine(g3 e' j' ?_).trans (k4 e' j' ?_)
    ·rcases hne with h0|h0|h0
     ·exact .inl h0
     ·exact .inr (by omega)
     ·exact .inr (by simp at h0;omega)
    ·rcases hne with h0|h0|h0
     ·exact .inl h0
     ·exact .inr (.inl (by omega))
     ·exact .inr (.inr (by simp at h0;omega))
   ·cases i with
    |zero=>
     simp at hk hc;subst hk;subst hc;exact(k4 e j (.inr (.inl (by omega)))).dcell g4
    |succ i=>
     simp at hk hc;have:=k5 i k c' hk hc;rw[show j+(i+1)=j+1+i by omega];exact this
   ·cases i with
    |zero=>
     obtain⟨⟨s,hs⟩,id,q1,q2,q3⟩:=g5 b hb;refine⟨by simp,⟨s,by simp[hs]⟩,id,q1,q2,?_⟩;rcases k3.2 id with q4|⟨q4,_⟩
     ·rw[q4];exact q3
     ·exact q4
    |succ i=>
     obtain⟨q0,⟨s,hs⟩,id,q1,⟨blk,q2⟩,q3⟩:=k6 i b hb;exact⟨by simp;omega,⟨s,by simpa using hs⟩,id,q1,⟨blk,g2.get q2⟩,q3⟩
   ·cases i with
    |zero=>
     cases i' with
     |zero=>rfl
     |succ i'=>
      exfalso;obtain⟨_,id,q1,_,q3⟩:=g5 b hb;obtain⟨_,_,id',p1,⟨blk,p2⟩,_⟩:=k6 i' b hb';obtain rfl:=hm.inj id id' b q1 p1;rw[q3]at p2;cases p2
    |succ i=>
     cases i' with
     |zero=>
      exfalso;obtain⟨_,id,q1,_,q3⟩:=g5 b hb';obtain⟨_,_,id',p1,⟨blk,p2⟩,_⟩:=k6 i b hb;obtain rfl:=hm.inj id id' b q1 p1;rw[q3]at p2;cases p2
     |succ i'=>rw[k7 i i' b hb hb']
  ·cases h
theorem Fewer.deep(h:Fewer mem mem'){p:Nat}{ks:List CK}{r:Row}{hh:Option (Nat×Nat)}(hp:mem[p]? =some (some (.deep ks r hh))):mem'[p]? =mem[p]? :=by
 rcases h.2 p with h1|⟨_,ks',r',h2⟩
 ·exact h1
 ·rw[hp]at h2;cases h2
theorem MemR.newDeep(hm:MemR mem ρ B w)(hB:B<=w.heap.size){m1:List (Option Blk)}(hf:Fewer mem m1){ks:List CK}{r:Row}{c:Array Value}{T:TypeId}{tot:Nat}{sub:Nat->Nat->Option Nat}(hc:tot*ks.length<=c.size)(hn:r.n<=tot)
  (v:Nat->Nat->Value) (h1:∀e j k,e<r.n->ks[j]? =some k->c[e*ks.length+j]? =some (v e j)) (h2:∀e j k,e<r.n->ks[j]? =some k->DCell B w k r e j false (sub e j) (v e j))
  (h3:∀e j b,sub e j=some b->e<r.n∧(∃s,ks[j]? =some (.slice s))∧∃id,Owned mem ρ id b∧m1[id]? =some none) (h4:manyS ks=false->∀e j e' j' b,sub e j=some b->sub e' j'=some b->e=e'∧j=j'):
  ∃ρ',MemR (m1++[some (.deep ks r none)]) ρ' B (w.alloc (.cells c T))∧(∀i,i<mem.length->Less ρ ρ' i)∧ρ' mem.length=some ⟨w.heap.size,0,ks.length,tot,r.n,true,sub⟩:=by
 have hg:(w.alloc (.cells c T)).heap[w.heap.size]? =some (.cells c T (0,0)):=by
  show(w.heap.push _)[w.heap.size]? =_;simp
 have hold:∀b,b<w.heap.size->(w.alloc (.cells c T)).heap[b]? =w.heap[b]? :=fun b hb=>by
  show(w.heap.push _)[b]? =_;rw[Array.getElem?_push];rw[AL (by omega)]
 have hsz:(w.alloc (.cells c T)).heap.size=w.heap.size+1:=by
  show(w.heap.push _).size=_;simp
 refine hm.upd (q:=mem.length) (blk:=.deep ks r none) (by simp[hf.1]) (by rw[List.getElem?_append_right (by rw[hf.1];exact AC _),hf.1];simp) (fun i b hi hb=>?_) (fun b hb=>?_) (by omega) (fun b hb _=>hold b hb) (fun ρ'=>?_) (fun h=>absurd h (Nat.lt_irrefl _))
 ·rcases get_snoc hb with⟨g1,g2⟩|⟨g1,_⟩
  ·have g3:=hf.get g1;refine⟨g3,fun p e j ks' r' hbr=>?_⟩;subst hbr;obtain⟨L,_,hr⟩:=hm.blk i _ g3;obtain⟨_,_,_,_,_,Lp,kps,rp,hh,a,q1,_⟩:=hr;have hp:p<mem.length:=(A0.1 q1).1;exact⟨by omega,by rw[AQ (by rw[hf.1];exact hp)];exact hf.deep q1⟩
  ·rw[hf.1]at g1;exact absurd g1 hi
 ·rcases hb with⟨_,rfl⟩|⟨e,j,hb⟩
  ·exact .inl (AC _)
  ·obtain⟨_,_,id,g1,g2⟩:=h3 e j b hb;refine .inr ⟨id,g1,.inr fun c hcb=>?_⟩;rw[AQ (A0.1 g2).1,g2]at hcb;cases hcb
 ·refine⟨rfl,rfl,rfl,hn,fun _=>⟨hB,c,T,hg,by simpa using hc⟩,fun e j k he hk=>⟨v e j,?_,?_⟩,fun e j b hb=>?_,h4⟩
  ·have:=h1 e j k he hk;simp only[World.cell?,hg,Option.isSome_none,Bool.false_eq_true,if_false,AE];exact this
  ·refine(h2 e j k he hk).mono fun b hb=>hold b ?_;obtain⟨_,_,id,g1,_⟩:=h3 e j b hb;exact own_lt hm g1
  ·obtain⟨g1,g2,id,g3,_⟩:=h3 e j b hb;have:=own_lt hm g3;exact⟨g1,g2,rfl,by simp only;omega⟩
theorem V.newDeep{n:Nat}{ks:List CK}{w:World}{tot cap N:Nat}{sub:Nat->Nat->Option Nat}{id:Nat}(hρ:ρ id=some ⟨w.heap.size,0,ks.length,tot,n,true,sub⟩)(hN:id<N)(hn:n<=cap)(ht:cap<=tot):V ρ N (.slice (some ⟨id,0,some 0⟩) n 0) (.slice (some ⟨w.heap.size,0,none⟩) n cap):=
 .slice (L:=⟨w.heap.size,0,ks.length,tot,n,true,sub⟩) hN hρ (by simp) hn (fun _=>by simp[Loc.adr]) (fun _=>⟨by simpa using ht,.inr (by simp[Loc.adr])⟩)
theorem zeroOk_sl:∀{ks:List CK}{vs:List Value},zeroOk ks vs=true->∀(j:Nat)(s:List CK),ks[j]? =some (.slice s)->vs[j]? =some (.slice none 0 0)
 |[],_,_,j,s,h=>by simp at h
 |ck::ks,[],h,_,_,_=>by cases ck<;>simp[zeroOk]at h
 |ck::ks,v::vs,h,j,s,hk=>by
  cases j with
  |zero=>
   simp at hk;subst hk;unfold zeroOk at h;split at h
   ·rename_i heq1 heq2;cases heq1
   ·rename_i heq1 heq2;cases heq1
   ·rename_i heq1 heq2;cases heq1
   ·rename_i heq1 heq2;cases heq1
   ·rename_i heq1 heq2;cases heq2;rfl
   ·cases h
  |succ j=>
   have h':zeroOk ks vs=true:=by
    unfold zeroOk at h;split at h
    ·rename_i heq1 heq2;cases heq1
    ·rename_i heq1 heq2;cases heq1;cases heq2;simp only[A2]at h;exact h.2
    ·rename_i heq1 heq2;cases heq1;cases heq2;exact h
    ·rename_i heq1 heq2;cases heq1;cases heq2;simp only[A2]at h;exact h.2
    ·rename_i heq1 heq2;cases heq1;cases heq2;exact h
    ·cases h
   simpa using zeroOk_sl h' j s (by simpa using hk)
theorem deepKs_sl:∀{ks:List CK},deepKs ks=true->∀(j:Nat)(s:List CK),ks[j]? =some (.slice s)->flat s=true
 |[],_,j,s,h=>by simp at h
 |k::ks,hd,0,s,h=>by
  simp at h;subst h;simp only[deepKs,A2]at hd;exact hd.1
 |k::ks,hd,j+1,s,h=>by
  have hd':deepKs ks=true:=by
   cases k with
   |slice t=>simp only[deepKs,A2]at hd;exact hd.2
   |other=>simp[deepKs]at hd
   |int _=>exact hd
   |bool=>exact hd
   |str=>exact hd
  exact deepKs_sl hd' j s (by simpa using h)
theorem makeDeep_sound(h:MemR mem ρ B w)(hB:B<=w.heap.size){t el:TypeId}{ei:TypeInfo}{z:Value}(ht:P.underlying t=some (.slice el))(hi:P.info? el=some ei)(hz:ei.zero=some z){ks:List CK}(hsz:ei.size=ks.length)(hzo:zeroOk ks (lcells z)=true)
  (hbytes:ei.bytes<=1000) (hdk:deepKs ks=true) (kl kc:IntKind) {l c:Int} (h0:0<=l) (hlc:l<=c) (hc:c<=100000000000):
  ∃ρ' cv w',(Instr.makeSlice t (.int kl l) (.int kc c)).run P w=.ok cv w'∧MemR (mem++[some (.deep ks (Row.zeros l.toNat) none)]) ρ' B w'∧(∀i,i<mem.length->Less ρ ρ' i)∧V ρ' (mem.length+1) (sl0 l.toNat mem.length) cv∧
   ∀W0:World,W0.heap.size<=w.heap.size->Below W0.heap.size W0 w->Below W0.heap.size W0 w':=by
 have hrun:=run_make (P:=P) w t el ei z ht hi hz kl kc l c h0 hlc (by
  have h1:(ei.bytes:Int)*c<=1000*c:=Int.mul_le_mul_of_nonneg_right (by omega) (by omega);omega) (by omega)
 obtain⟨g1,g2⟩:=zeroOk_spec hzo;have hzs:z.cells.size=ks.length:=by rw[<-g1,<-cells_lcells];simp
 have hcell:∀(j:Nat)(k:CK),ks[j]? =some k->∃v,z.cells[j]? =some v∧∀(w:World)(n e:Nat),DCell B w k (Row.zeros n) e j false none v:=by
  intro j k hk;obtain⟨v,hv,hc⟩:=g2 j k hk;rw[<-cells_lcells]at hv;refine⟨v,by simpa using hv,fun w n e=>?_⟩;cases k with
  |slice s=>
   have h5:=zeroOk_sl hzo j s hk;rw[<-cells_lcells,hv]at h5;cases h5;exact⟨deepKs_sl hdk j s hk,rfl,fun _=>⟨none,0,rfl,AC _,.inl ⟨rfl,rfl⟩⟩⟩
  |int k=>exact hc (fun _=>False) w n e j
  |bool=>exact hc (fun _=>False) w n e j
  |str=>exact hc (fun _=>False) w n e j
  |other=>exact hc (fun _=>False) w n e j
 obtain⟨ρ',k1,k2,k3⟩:=h.newDeep hB (.refl mem) (ks:=ks) (r:=Row.zeros l.toNat) (c:=madeCells z.cells (c.toNat*ei.size)) (T:=el) (tot:=c.toNat) (sub:=s0) (by rw[size_madeCells,hsz];exact AC _) (show l.toNat<=c.toNat by omega) (fun _ j=>z.cells.getD j undef) (fun e j k he hk=>by
   obtain⟨v,hv,_⟩:=hcell j k hk;have hj:j<ks.length:=(A0.1 hk).1;rw[hsz];have he':e<l.toNat:=he;rw[madeCells_get hzs (show e<c.toNat by omega) hj hv,Array.getD_eq_getD_getElem?,hv,Option.getD_some]) (fun e j k he hk=>by
   obtain⟨v,hv,hcr⟩:=hcell j k hk;have:z.cells.getD j undef=v:=by rw[Array.getD_eq_getD_getElem?,hv,Option.getD_some]
   rw[this];exact hcr _ _ _) (fun e j b hb=>by cases hb) (fun _ e j e' j' b hb=>by cases hb)
 exact⟨ρ',_,_,hrun,k1,k2,V.newDeep (w:=w) k3 (by omega) (by omega) (AC _),fun W0 hW hb=>below_alloc hW hb _⟩
theorem litDeep_sound(hm:MemR mem ρ B w){ks:List CK}{n:Nat}{cells ccs:List Value}(hcl:cells.length=n*ks.length)(hcc:ccs.length=cells.length)(hv:∀(i:Nat)(x c:Value),cells[i]? =some x->ccs[i]? =some c->V ρ mem.length x c):∀(m:Nat)(m1 m2:List (Option Blk))(r r1:Row),Fewer mem m1->litDeep m1 ks n cells m r=some (r1,m2)->m<=n->
  ∃sub:Nat->Nat->Option Nat,r1.n=r.n∧Fewer m1 m2∧(∀e j,e<n-m->SameC r r1 e j)∧
   (∀(e j:Nat)(k:CK)(c:Value),n-m<=e->e<n->ks[j]? =some k->ccs[e*ks.length+j]? =some c->DCell B w k r1 e j false (sub e j) c)∧
   (∀e j b,sub e j=some b->n-m<=e∧e<n∧(∃s,ks[j]? =some (.slice s))∧∃id,Owned mem ρ id b∧(∃blk,m1[id]? =some (some blk))∧m2[id]? =some none)∧
   ∀e j e' j' b,sub e j=some b->sub e' j'=some b->e=e'∧j=j'
 |0,m1,m2,r,r1,hf,h,hmn=>by
  simp[litDeep]at h;obtain⟨rfl,rfl⟩:=h;exact⟨fun _ _=>none,rfl,.refl _,fun _ _ _=>⟨rfl,rfl,rfl,rfl⟩,fun e j k c h1 h2=>by omega,(fun e j b hb=>by cases hb),(fun e j e' j' b hb=>by cases hb)⟩
 |m+1,m1,m2,r,r1,hf,h,hmn=>by
  simp only[litDeep]at h;split at h
  ·rename_i r2 m3 h1;have hrow:(n-(m+1))*ks.length+ks.length<=n*ks.length:=by
    have:(n-(m+1)+1)*ks.length<=n*ks.length:=AH _ (by omega)
    rwa [Nat.add_mul,Nat.one_mul]at this
   obtain⟨ob,g1,g2,g3,g4,g5,g6,g7⟩:=setDeeps_sound hm _ m1 m3 r r2 0 ks ((ccs.drop ((n-(m+1))*ks.length)).take ks.length) hf h1 (by simp;omega) (fun i x c hx hc=>hv _ x c (drop_take_get hx).2 (drop_take_get hc).2);obtain⟨sub,k1,k3,k4,k5,k6,k7⟩:=litDeep_sound hm hcl hcc hv m m3 m2 r2 r1 (hf.trans g3) h (by omega);refine⟨fun e j=>if e=n-(m+1)then ob j else sub e j,k1.trans g1,g3.trans k3,fun e j he=>(g4 e j (.inl (by omega))).trans (k4 e j (by omega)),fun e j k c he1 he2 hk hc=>?_,fun e j b hb=>?_,fun e j e' j' b hb hb'=>?_⟩
   ·by_cases hee:e=n-(m+1)
    ·subst hee;have hj:j<ks.length:=(A0.1 hk).1;have:=g5 j k c hk (by rw[List.getElem?_take,AM hj,List.getElem?_drop];exact hc);rw[AE]at this;simp only[if_true];exact(k4 _ j (by omega)).dcell this
    ·simp only[hee,if_false];exact k5 e j k c (by omega) he2 hk hc
   ·simp only at hb;split at hb
    ·rename_i hee;obtain⟨_,q1,id,q2,q3,q4⟩:=g6 j b hb;refine⟨by omega,by omega,q1,id,q2,q3,?_⟩;rcases k3.2 id with q5|⟨q5,_⟩
     ·rw[q5];exact q4
     ·exact q5
    ·obtain⟨q0,q1,q2,id,q3,⟨blk,q4⟩,q5⟩:=k6 e j b hb;exact⟨by omega,q1,q2,id,q3,⟨blk,g3.get q4⟩,q5⟩
   ·simp only at hb hb';split at hb
    ·rename_i hee;split at hb'
     ·rename_i hee';exact⟨by omega,g7 j j' b hb hb'⟩
     ·exfalso;obtain⟨_,_,id,q1,_,q3⟩:=g6 j b hb;obtain⟨_,_,_,id',p1,⟨blk,p2⟩,_⟩:=k6 e' j' b hb';obtain rfl:=hm.inj id id' b q1 p1;rw[q3]at p2;cases p2
    ·split at hb'
     ·exfalso;obtain⟨_,_,id,q1,_,q3⟩:=g6 j' b hb';obtain⟨_,_,_,id',p1,⟨blk,p2⟩,_⟩:=k6 e j b hb;obtain rfl:=hm.inj id id' b q1 p1;rw[q3]at p2;cases p2
     ·exact k7 e j e' j' b hb hb'
  ·cases h
theorem meetM_len:∀(a b:List (Option Blk)),a.length=b.length->(meetM a b).length=a.length
 |[],b,_=>by cases b<;>rfl
 |x::a,[],h=>by simp at h
 |x::a,y::b,h=>by simp only[meetM,List.length_cons];rw[meetM_len a b (by simpa using h)]
theorem meetM_get:∀(a b:List (Option Blk))(i:Nat),a.length=b.length->(meetM a b)[i]? =match b[i]? with|some none=>some none|_=>a[i]?
 |[],b,i,h=>by
  have:b=[]:=by simpa using h.symm
  subst this;rfl
 |x::a,[],i,h=>by simp at h
 |x::a,y::b,0,h=>by
  cases y<;>rfl
 |x::a,y::b,i+1,h=>meetM_get a b i (by simpa using h)
theorem Fewer.meet{mem m m1:List (Option Blk)}(h:Fewer mem m)(k:Fewer mem m1):Fewer m (meetM m m1):=by
 have hl:m.length=m1.length:=h.1.trans k.1.symm;refine⟨meetM_len _ _ hl,fun i=>?_⟩;rw[meetM_get _ _ _ hl];rcases k.2 i with h1|⟨h1,ks,r,h2⟩
 ·cases hc:mem[i]? with
  |none=>rw[hc]at h1;rw[h1];exact .inl rfl
  |some c=>
   rw[hc]at h1;rw[h1];cases c with
   |none=>
    rcases h.2 i with h3|⟨h3,ks,r,h4⟩
    ·left;rw[h3,hc]
    ·rw[hc]at h4;cases h4
   |some c=>exact .inl rfl
 ·rw[h1];rcases h.2 i with h3|⟨h3,_⟩
  ·exact .inr ⟨rfl,ks,r,h3.trans h2⟩
  ·exact .inl h3.symm
theorem meet_none{mem m m1:List (Option Blk)}(h:Fewer mem m)(k:Fewer mem m1){i:Nat}(h1:m1[i]? =some none):(meetM m m1)[i]? =some none:=by
 rw[meetM_get _ _ _ (h.1.trans k.1.symm),h1]
theorem setFros_sound(hm:MemR mem ρ B w){e:Nat}:∀(xs:List Value)(m1 m2:List (Option Blk))(r r1:Row)(j:Nat)(ks:List CK)(cs:List Value),Fewer mem m1->setFros mem m1 r e j ks xs=some (r1,m2)->cs.length=xs.length->
  (∀(i:Nat)(x c:Value),xs[i]? =some x->cs[i]? =some c->V ρ mem.length x c)->
  ∃ob:Nat->Option Nat,r1.n=r.n∧xs.length<=ks.length∧Fewer m1 m2∧(∀e' j',(e'≠e∨j'<j∨j+xs.length<=j')->SameC r r1 e' j')∧
   (∀(i:Nat)(k:CK)(c:Value),ks[i]? =some k->cs[i]? =some c->DCell B w k r1 e (j+i) false (ob i) c)∧
   (∀i b,ob i=some b->i<xs.length∧(∃s,ks[i]? =some (.slice s))∧∃id,Owned mem ρ id b∧m2[id]? =some none)
 |[],m1,m2,r,r1,j,ks,cs,hf,h,hl,hv=>by
  have:r=r1∧m1=m2:=by
   cases ks<;>simp[setFros]at h<;>exact h
  obtain⟨rfl,rfl⟩:=this;have hcs:cs=[]:=by simpa using hl
  subst hcs;exact⟨fun _=>none,rfl,by simp,.refl _,fun _ _ _=>⟨rfl,rfl,rfl,rfl⟩,fun i k c _ hc=>by simp at hc,(fun i b hb=>by cases hb)⟩
 |x::xs,m1,m2,r,r1,j,[],cs,hf,h,hl,hv=>by simp[setFros]at h
 |x::xs,m1,m2,r,r1,j,ck::ks,[],hf,h,hl,hv=>by simp at hl
 |x::xs,m1,m2,r,r1,j,ck::ks,c::cs,hf,h,hl,hv=>by
  simp only[setFros]at h;split at h
  ·rename_i r2 m3 h1;obtain⟨o0,g1,g2,g3,g4,g5⟩:=setDeep1_sound hm (.refl mem) h1 (hv 0 x c rfl rfl);have hmt:=hf.meet g2;obtain⟨ob,k1,k2,k3,k4,k5,k6⟩:=setFros_sound hm xs (meetM m1 m3) m2 r2 r1 (j+1) ks cs (hf.trans hmt) h (by simpa using hl) (fun i x' c' hx hc=>hv (i+1) x' c' (by simpa using hx) (by simpa using hc));refine⟨fun i=>match i with|0=>o0|i+1=>ob i,k1.trans g1,by simpa using k2,hmt.trans k3,fun e' j' hne=>?_,fun i k c' hk hc=>?_,fun i b hb=>?_⟩
   ·refine(g3 e' j' ?_).trans (k4 e' j' ?_)
    ·rcases hne with h0|h0|h0
     ·exact .inl h0
     ·exact .inr (by omega)
     ·exact .inr (by simp at h0;omega)
    ·rcases hne with h0|h0|h0
     ·exact .inl h0
     ·exact .inr (.inl (by omega))
     ·exact .inr (.inr (by simp at h0;omega))
   ·cases i with
    |zero=>
     simp at hk hc;subst hk;subst hc;exact(k4 e j (.inr (.inl (by omega)))).dcell g4
    |succ i=>
     simp at hk hc;have:=k5 i k c' hk hc;rw[show j+(i+1)=j+1+i by omega];exact this
   ·cases i with
    |zero=>
     obtain⟨⟨s,hs⟩,id,q1,q2,q3⟩:=g5 b hb;refine⟨by simp,⟨s,by simp[hs]⟩,id,q1,?_⟩;have q4:=meet_none hf g2 q3;rcases k3.2 id with q5|⟨q5,_⟩
     ·rw[q5];exact q4
     ·exact q5
    |succ i=>
     obtain⟨q0,⟨s,hs⟩,id,q1,q3⟩:=k6 i b hb;exact⟨by simp;omega,⟨s,by simpa using hs⟩,id,q1,q3⟩
  ·cases h
theorem litFro_sound(hm:MemR mem ρ B w){ks:List CK}{n:Nat}{cells ccs:List Value}(hcl:cells.length=n*ks.length)(hcc:ccs.length=cells.length)(hv:∀(i:Nat)(x c:Value),cells[i]? =some x->ccs[i]? =some c->V ρ mem.length x c):∀(m:Nat)(m1 m2:List (Option Blk))(r r1:Row),Fewer mem m1->litFro mem m1 ks n cells m r=some (r1,m2)->m<=n->
  ∃sub:Nat->Nat->Option Nat,r1.n=r.n∧Fewer m1 m2∧(∀e j,e<n-m->SameC r r1 e j)∧
   (∀(e j:Nat)(k:CK)(c:Value),n-m<=e->e<n->ks[j]? =some k->ccs[e*ks.length+j]? =some c->DCell B w k r1 e j false (sub e j) c)∧
   (∀e j b,sub e j=some b->n-m<=e∧e<n∧(∃s,ks[j]? =some (.slice s))∧∃id,Owned mem ρ id b∧m2[id]? =some none)
 |0,m1,m2,r,r1,hf,h,hmn=>by
  simp[litFro]at h;obtain⟨rfl,rfl⟩:=h;exact⟨fun _ _=>none,rfl,.refl _,fun _ _ _=>⟨rfl,rfl,rfl,rfl⟩,fun e j k c h1 h2=>by omega,(fun e j b hb=>by cases hb)⟩
 |m+1,m1,m2,r,r1,hf,h,hmn=>by
  simp only[litFro]at h;split at h
  ·rename_i r2 m3 h1;have hrow:(n-(m+1))*ks.length+ks.length<=n*ks.length:=by
    have:(n-(m+1)+1)*ks.length<=n*ks.length:=AH _ (by omega)
    rwa [Nat.add_mul,Nat.one_mul]at this
   obtain⟨ob,g1,g2,g3,g4,g5,g6⟩:=setFros_sound hm _ m1 m3 r r2 0 ks ((ccs.drop ((n-(m+1))*ks.length)).take ks.length) hf h1 (by simp;omega) (fun i x c hx hc=>hv _ x c (drop_take_get hx).2 (drop_take_get hc).2);obtain⟨sub,k1,k3,k4,k5,k6⟩:=litFro_sound hm hcl hcc hv m m3 m2 r2 r1 (hf.trans g3) h (by omega);refine⟨fun e j=>if e=n-(m+1)then ob j else sub e j,k1.trans g1,g3.trans k3,fun e j he=>(g4 e j (.inl (by omega))).trans (k4 e j (by omega)),fun e j k c he1 he2 hk hc=>?_,fun e j b hb=>?_⟩
   ·by_cases hee:e=n-(m+1)
    ·subst hee;have hj:j<ks.length:=(A0.1 hk).1;have:=g5 j k c hk (by rw[List.getElem?_take,AM hj,List.getElem?_drop];exact hc);rw[AE]at this;simp only[if_true];exact(k4 _ j (by omega)).dcell this
    ·simp only[hee,if_false];exact k5 e j k c (by omega) he2 hk hc
   ·simp only at hb;split at hb
    ·rename_i hee;obtain⟨_,q1,id,q2,q4⟩:=g6 j b hb;refine⟨by omega,by omega,q1,id,q2,?_⟩;rcases k3.2 id with q5|⟨q5,_⟩
     ·rw[q5];exact q4
     ·exact q5
    ·obtain⟨q0,q1,q2,id,q3,q5⟩:=k6 e j b hb;exact⟨by omega,q1,q2,id,q3,q5⟩
  ·cases h
theorem litD_sound(hm:MemR mem ρ B w){ks:List CK}{n:Nat}{cells ccs:List Value}(hcl:cells.length=n*ks.length)(hcc:ccs.length=cells.length)(hv:∀(i:Nat)(x c:Value),cells[i]? =some x->ccs[i]? =some c->V ρ mem.length x c)(m2:List (Option Blk))(r1:Row)(h:litD mem ks n cells=some (r1,m2)):
  ∃sub:Nat->Nat->Option Nat,r1.n=n∧Fewer mem m2∧
   (∀(e j:Nat)(k:CK)(c:Value),e<n->ks[j]? =some k->ccs[e*ks.length+j]? =some c->DCell B w k r1 e j false (sub e j) c)∧
   (∀e j b,sub e j=some b->e<n∧(∃s,ks[j]? =some (.slice s))∧∃id,Owned mem ρ id b∧m2[id]? =some none)∧
   (manyS ks=false->∀e j e' j' b,sub e j=some b->sub e' j'=some b->e=e'∧j=j'):=by
 unfold litD at h;split at h
 ·rename_i hmany;obtain⟨sub,k1,k3,_,k5,k6⟩:=litFro_sound hm hcl hcc hv n mem m2 _ r1 (.refl _) h (AC _);exact⟨sub,k1,k3,fun e j k c he hk hc=>k5 e j k c (by omega) he hk hc,fun e j b hb=>(k6 e j b hb).2,fun h=>by rw[hmany]at h;cases h⟩
 ·obtain⟨sub,k1,k3,_,k5,k6,k7⟩:=litDeep_sound hm hcl hcc hv n mem m2 _ r1 (.refl _) h (AC _);refine⟨sub,k1,k3,fun e j k c he hk hc=>k5 e j k c (by omega) he hk hc,fun e j b hb=>?_,fun _=>k7⟩;obtain⟨_,q1,q2,id,q3,_,q4⟩:=k6 e j b hb;exact⟨q1,q2,id,q3,q4⟩
theorem dropB_len(p:Nat)(m:List (Option Blk)):(dropB p m).length=m.length:=by simp[dropB]
theorem dropB_none{p i:Nat}{m:List (Option Blk)}(h:m[i]? =some none):(dropB p m)[i]? =some none:=by
 unfold dropB;rw[List.getElem?_map,h];rfl
theorem storeDeep(hm:MemR mem ρ B w){id e j:Nat}{ks:List CK}{r r1:Row}{h:Option (Nat×Nat)}{xs cs:List Value}{mem1:List (Option Blk)}{L:Loc}(hb:mem[id]? =some (some (.deep ks r h)))(hL:ρ id=some L)(he:e<r.n)(hset:setDeeps mem r e j (ks.drop j) xs=some (r1,mem1))(hl:cs.length=xs.length)
  (hv:∀(i:Nat)(x c:Value),xs[i]? =some x->cs[i]? =some c->V ρ mem.length x c) (hpos:0<xs.length) (hmany:manyS ks=false) (hh:∀e' j',isHole h e' j'=true->e'=e∧j<=j'∧j'<j+xs.length):
  ∃c T,B<=L.b∧w.heap[L.b]? =some (.cells c T (0,0))∧L.off+e*L.sz+j+cs.length<=c.size∧
   ∃ρ',MemR ((dropB id mem1).set id (some (.deep ks r1 none))) ρ' B (w.setCells L.b (L.off+e*L.sz+j) cs)∧(∀i,i<mem.length->Less ρ ρ' i):=by
 obtain⟨M,hM,hbr⟩:=hm.blk _ _ hb;rw[hL]at hM;cases hM;obtain⟨b1,b2,b3,b4,b5,b6,b7,b8⟩:=hbr;replace b8:=b8 hmany;have htot:0<L.tot:=by omega
 obtain⟨b9,c,T,b10,b11⟩:=b5 htot;obtain⟨ob,s1,s2,s3,s4,s5,s6,s7⟩:=setDeeps_sound hm xs mem mem1 r r1 j (ks.drop j) cs (.refl mem) hset hl hv;simp only[List.length_drop]at s2;have hrow:e*L.sz+L.sz<=L.tot*L.sz:=by
  have:(e+1)*L.sz<=L.tot*L.sz:=AH _ (by omega)
  rwa [Nat.add_mul,Nat.one_mul]at this
 have hfit:L.off+e*L.sz+j+cs.length<=c.size:=by omega
 obtain⟨c',q1,q2,q3,q4,q5⟩:=setCells_block cs (L.off+e*L.sz+j) w c b10 hfit;have hid1:mem1[id]? =some (some (.deep ks r h)):=(s3.deep hb).trans hb;have hlt:id<mem.length:=(A0.1 hb).1;have hOid:∀b,L.foot b->Owned mem ρ id b:=fun b hb'=>⟨L,_,hL,hb,rfl,hb'⟩;have hne0:∀id',mem1[id']? =some none->id'≠id:=by
  rintro id' h0 rfl;rw[hid1]at h0;cases h0
 let L':Loc:={L with sub:=fun e' j'=>if e'=e∧j<=j'∧j'<j+xs.length then ob (j'-j)else L.sub e' j'}
 have hsub:∀e' j' b,L'.sub e' j'=some b->(e'=e∧j<=j'∧j'<j+xs.length∧ob (j'-j)=some b)∨(¬(e'=e∧j<=j'∧j'<j+xs.length)∧L.sub e' j'=some b):=by
  intro e' j' b h0;simp only[L']at h0;split at h0
  ·rename_i h1;exact .inl ⟨h1.1,h1.2.1,h1.2.2,h0⟩
  ·rename_i h1;exact .inr ⟨h1,h0⟩
 have hsubne:∀e' j' b,L'.sub e' j'=some b->b≠L.b:=by
  intro e' j' b h0;rcases hsub e' j' b h0 with⟨_,_,_,h1⟩|⟨_,h1⟩
  ·rintro rfl;obtain⟨_,_,id',p1,_,p3⟩:=s6 _ _ h1;exact hne0 id' p3 (hm.inj id' id L.b p1 (hOid _ (.inl ⟨htot,rfl⟩)))
  ·exact(b7 e' j' b h1).2.2.2
 have hget:∀i,i≠id->((dropB id mem1).set id (some (.deep ks r1 none)))[i]? =(dropB id mem1)[i]? :=fun i hi=>List.getElem?_set_ne fun h=>hi h.symm;have hw:∀b,b≠L.b->(w.setCells L.b (L.off+e*L.sz+j) cs).heap[b]? =w.heap[b]? :=q4;refine⟨c,T,b9,b10,hfit,?_⟩;obtain⟨ρ',k1,k2,_⟩:=hm.upd (q:=id) (blk:=.deep ks r1 none) (L:=L') (mem':=(dropB id mem1).set id (some (.deep ks r1 none))) (w':=w.setCells L.b (L.off+e*L.sz+j) cs) (by simp[dropB_len,s3.1]) (by rw[List.getElem?_set_self (by rw[dropB_len,s3.1];exact hlt)])
  (fun i b hi hb'=>by
   rw[hget i hi]at hb';obtain⟨g1,g2⟩:=dropB_get hb';have g3:=s3.get g1;refine⟨g3,fun p e2 j2 ks2 r2 hbr=>?_⟩;subst hbr;obtain⟨L2,_,hr2⟩:=hm.blk i _ g3;obtain⟨_,_,_,_,_,Lp,kps,rp,hh2,a2,p1,_⟩:=hr2;have hne:p≠id:=by rintro rfl;exact g2 _ _ _ _ rfl
   have p2:=s3.deep p1;exact⟨hne,by rw[hget p hne,dropB_set (fun q e j ks r hq=>by rw[p2,p1]at hq;cases hq)];exact p2⟩)
  (fun b hb'=>by
   rcases hb' with⟨h1,h2⟩|⟨e',j',h0⟩
   ·exact .inr ⟨id,hOid b (.inl ⟨h1,h2⟩),.inl rfl⟩
   ·rcases hsub e' j' b h0 with⟨_,_,_,h1⟩|⟨_,h1⟩
    ·obtain⟨_,_,id',p1,_,p3⟩:=s6 _ _ h1;refine .inr ⟨id',p1,.inr fun c hc=>?_⟩;rw[hget id' (hne0 id' p3),dropB_none p3]at hc;cases hc
    ·exact .inr ⟨id,hOid b (.inr ⟨e',j',h1⟩),.inl rfl⟩)
  (by rw[q5];exact AC _)
  (fun b _ hc=>hw b fun h0=>(hc id (h0▸hOid L.b (.inl ⟨htot,rfl⟩))).1 rfl)
  (fun ρ''=>by
   refine⟨b1.trans s1.symm,b2,b3,by rw[s1];exact b4,fun _=>⟨b9,c',T,q1,by rw[q2];exact b11⟩,fun e' j' k he' hk=>?_,fun e' j' b h0=>?_,fun _ e1 j1 e2 j2 b h1 h2=>?_⟩
   ·rw[s1]at he';have hj':j'<L.sz:=by rw[b2];exact(A0.1 hk).1
    by_cases hin:e'=e∧j<=j'∧j'<j+xs.length
    ·obtain⟨rfl,h1,h2⟩:=hin;have hci:j'-j<cs.length:=by omega
     refine⟨cs[j'-j],?_,?_⟩
     ·simp only[World.cell?,L',q1,Option.isSome_none,Bool.false_eq_true,if_false,q3];rw[<-b2,AM (by omega),show L.off+e'*L.sz+j'-(L.off+e'*L.sz+j)=j'-j by omega];exact AK hci
     ·have:=s5 (j'-j) k cs[j'-j] (by rw[List.getElem?_drop,show j+(j'-j)=j' by omega];exact hk) (AK hci);rw[show j+(j'-j)=j' by omega]at this;have hs':L'.sub e' j'=ob (j'-j):=by simp only[L',h1,h2,and_self,if_true]
      rw[hs'];exact this.mono fun b hb'=>hw b (hsubne e' j' b (hs'.trans hb'))
    ·obtain⟨v,g1,g2⟩:=b6 e' j' k he' hk;have hs':L'.sub e' j'=L.sub e' j':=by simp only[L',hin,if_false]
     refine⟨v,?_,?_⟩
     ·simp only[World.cell?,b10,Option.isSome_none,Bool.false_eq_true,if_false]at g1;simp only[World.cell?,L',q1,Option.isSome_none,Bool.false_eq_true,if_false,q3];rw[<-b2]at g1⊢;rw[AL,g1];rintro⟨p1,p2⟩;apply hin;have hee:e'=e:=by
       rcases Nat.lt_trichotomy e' e with hlt|heq|hgt
       ·exfalso;have:(e'+1)*L.sz<=e*L.sz:=AH _ (by omega);rw[Nat.add_mul,Nat.one_mul]at this;omega
       ·exact heq
       ·exfalso;have:(e+1)*L.sz<=e'*L.sz:=AH _ (by omega);rw[Nat.add_mul,Nat.one_mul]at this;omega
      subst hee;exact⟨rfl,by omega,by omega⟩
     ·rw[hs'];have hf:isHole h e' j'=false:=by
       cases hi:isHole h e' j' with
       |false=>rfl
       |true=>exact absurd (hh e' j' hi) hin
      rw[hf]at g2;have g3:=(s4 e' j' (by
       by_cases h1:e'=e
       ·by_cases h2:j'<j
        ·exact .inr (.inl h2)
        ·exact .inr (.inr (by omega))
       ·exact .inl h1)).dcell g2
      exact g3.mono fun b hb'=>hw b (hsubne e' j' b (hs'.trans hb'))
   ·rcases hsub e' j' b h0 with⟨rfl,h1,h2,h3⟩|⟨_,h1⟩
    ·obtain⟨_,⟨sb,p1⟩,_⟩:=s6 _ _ h3;rw[List.getElem?_drop,show j+(j'-j)=j' by omega]at p1;exact⟨by rw[s1];exact he,⟨sb,p1⟩,rfl,hsubne _ _ b h0⟩
    ·obtain⟨p1,p2,_,p4⟩:=b7 e' j' b h1;exact⟨by rw[s1];exact p1,p2,rfl,p4⟩
   ·rcases hsub e1 j1 b h1 with⟨rfl,p1,p2,p3⟩|⟨_,p1⟩<;>rcases hsub e2 j2 b h2 with⟨rfl,r1,r2,r3⟩|⟨_,r1⟩
    ·have:=s7 _ _ b p3 r3;exact⟨rfl,by omega⟩
    ·exfalso;obtain⟨_,_,id',u1,_,u3⟩:=s6 _ _ p3;exact hne0 id' u3 (hm.inj id' id b u1 (hOid b (.inr ⟨_,_,r1⟩)))
    ·exfalso;obtain⟨_,_,id',u1,_,u3⟩:=s6 _ _ r3;exact hne0 id' u3 (hm.inj id' id b u1 (hOid b (.inr ⟨_,_,p1⟩)))
    ·exact b8 _ _ _ _ b p1 r1)
  (fun _=>⟨L,L.own,L'.sub,hL,rfl,fun h=>h⟩)
 exact⟨ρ',k1,k2⟩
theorem rds_write{ks:List CK}{r r1:Row}{b off e j:Nat}{cs:List Value}{c c':Array Value}{T:TypeId}{ok ok':Nat->Prop}(hf:flat ks=true)(hg:w.heap[b]? =some (.cells c T (0,0)))(hg':w'.heap[b]? =some (.cells c' T (0,0)))(hrn:r1.n=r.n)(hj:j+cs.length<=ks.length)
  (hc':∀i,c'[i]? =if off+e*ks.length+j<=i∧i<off+e*ks.length+j+cs.length then cs[i-(off+e*ks.length+j)]? else c[i]?)
  (hold:∀(k:CK)(e' j':Nat)(v:Value),(e'≠e∨j'<j∨j+cs.length<=j')->CellR ok w k r e' j' v->CellR ok w k r1 e' j' v)
  (hnew:∀(i:Nat)(k:CK)(x:Value),(ks.drop j)[i]? =some k->cs[i]? =some x->CellR ok' w k r1 e (j+i) x) (h:Rds ok w ks r b off):Rds (fun _=>False) w' ks r1 b off:=by
 cases h with
 |mk v0 v1 v2=>
  have hcell:∀(e' j':Nat)(k:CK),e'<r.n->ks[j']? =some k->c[off+e'*ks.length+j']? =some (v0 e' j'):=by
   intro e' j' k he hk;have:=v1 e' j' k he hk;simpa only[World.cell?,hg,Option.isSome_none,Bool.false_eq_true,if_false]using this
  refine .mk (fun e' j'=>if e'=e∧j<=j'∧j'<j+cs.length then cs.getD (j'-j) undef else v0 e' j') (fun e' j' k he hk=>?_) (fun e' j' k he hk=>?_)
  ·have hj':j'<ks.length:=(A0.1 hk).1;have hc:=hcell e' j' k (by omega) hk;simp only[World.cell?,hg',Option.isSome_none,Bool.false_eq_true,if_false,hc'];by_cases hin:e'=e∧j<=j'∧j'<j+cs.length
   ·obtain⟨rfl,p1,p2⟩:=hin;rw[AM (by omega),AM ⟨rfl,p1,p2⟩];rw[show off+e'*ks.length+j'-(off+e'*ks.length+j)=j'-j by omega];have:j'-j<cs.length:=by omega
    rw[AK this,List.getD_eq_getElem?_getD,AK this,Option.getD_some]
   ·rw[AL hin,AL,hc];rintro⟨p1,p2⟩;apply hin;have hee:e'=e:=by
     rcases Nat.lt_trichotomy e' e with hlt|heq|hgt
     ·exfalso;have:(e'+1)*ks.length<=e*ks.length:=AH _ (by omega);rw[Nat.add_mul,Nat.one_mul]at this;omega
     ·exact heq
     ·exfalso;have:(e+1)*ks.length<=e'*ks.length:=AH _ (by omega);rw[Nat.add_mul,Nat.one_mul]at this;omega
    subst hee;exact⟨rfl,by omega,by omega⟩
  ·by_cases hin:e'=e∧j<=j'∧j'<j+cs.length
   ·obtain⟨rfl,p1,p2⟩:=hin;have hif:(if e'=e'∧j<=j'∧j'<j+cs.length then cs.getD (j'-j) undef else v0 e' j')=cs.getD (j'-j) undef:=AM ⟨rfl,p1,p2⟩;show CellR _ _ k r1 e' j' (if e'=e'∧j<=j'∧j'<j+cs.length then cs.getD (j'-j) undef else v0 e' j');rw[hif];have hlt:j'-j<cs.length:=by omega
    have hc2:cs[j'-j]? =some (cs.getD (j'-j) undef):=by
     rw[List.getD_eq_getElem?_getD,AK hlt,Option.getD_some]
    have:=hnew (j'-j) k _ (by rw[List.getElem?_drop,show j+(j'-j)=j' by omega];exact hk) hc2;rw[show j+(j'-j)=j' by omega]at this;exact CellR.plain (w:=w') (ok:=fun _=>True) (flat_ck1 hf _ _ hk) ((this.plain (ok':=fun _=>False) (flat_ck1 hf _ _ hk)).mono fun _ hf=>hf.elim)
   ·simp only[AL hin];have h9:=hold k e' j' _ (by
     by_cases h1:e'=e
     ·by_cases h2:j'<j
      ·exact .inr (.inl h2)
      ·exact .inr (.inr (by omega))
     ·exact .inl h1) (v2 e' j' k (by omega) hk)
    exact CellR.plain (w:=w') (ok:=fun _=>True) (flat_ck1 hf _ _ hk) ((h9.plain (ok':=fun _=>False) (flat_ck1 hf _ _ hk)).mono fun _ hf=>hf.elim)
theorem storeBor(hm:MemR mem ρ B w){id p e0 j0 e j:Nat}{ks kp:List CK}{r r1 rp:Row}{xs cs:List Value}{mem1:List (Option Blk)}{L:Loc}(hb:mem[id]? =some (some (.bor p e0 j0 ks r)))(hp:mem[p]? =some (some (.deep kp rp none)))(hL:ρ id=some L)(he:e<r.n)(hset:setCells mem r e j (ks.drop j) xs=some (r1,mem1))(hl:cs.length=xs.length)
  (hv:∀(i:Nat)(x c:Value),xs[i]? =some x->cs[i]? =some c->V ρ mem.length x c) (hpos:0<xs.length) (hmany:manyS kp=false):
  ∃c T,B<=L.b∧w.heap[L.b]? =some (.cells c T (0,0))∧L.off+e*L.sz+j+cs.length<=c.size∧
   ∃ρ',MemR ((dropB p mem).set p (some (.deep kp (rp.setR e0 j0 r1) none))) ρ' B (w.setCells L.b (L.off+e*L.sz+j) cs)∧(∀i,i<mem.length->Less ρ ρ' i):=by
 obtain⟨M,hM,f1,f2,f3,f4,f5,Lp,kp',rp',h,a,g1,g2,g3,g4,g5,g6,g0,g7,g8⟩:=hm.blk _ _ hb;rw[hL]at hM;cases hM;rw[hp]at g1;cases g1;obtain⟨Mp,hMp,b1,b2,b3,b4,b5,b6,b7,b8⟩:=hm.blk p _ hp;rw[g2]at hMp;cases hMp;obtain⟨v,v1,v2⟩:=b6 e0 j0 _ g3 g4;rw[g7]at v1;cases v1;obtain⟨a',cap,v3,v4,v5⟩:=v2.2.2 rfl;obtain⟨w1,_,w3⟩:=Value.slice.inj v3;subst w1;subst w3;rw[g6]at v4 v5;rcases v5 with⟨v5,_⟩|⟨b,off,c,T,u1,u2,u3,u4,u5,u6⟩
 ·omega
 have ha:L.b=b∧L.off=off:=by
  rcases g8 with g8|g8
  ·omega
  ·rw[u2]at g8;cases g8;exact⟨rfl,rfl⟩
 obtain⟨rfl,rfl⟩:=ha;obtain⟨ρ1,k1,k2,k3,k4,k5,k6⟩:=setCells_sound (w:=w) xs mem mem1 ρ r r1 j (ks.drop j) cs hset hm hl hv;simp only[List.length_drop]at k4;have hrow:e*L.sz+L.sz<=L.tot*L.sz:=by
  have:(e+1)*L.sz<=L.tot*L.sz:=AH _ (by omega)
  rwa [Nat.add_mul,Nat.one_mul]at this
 have hfit:L.off+e*L.sz+j+cs.length<=c.size:=by rw[<-f3]at u5;omega
 obtain⟨c',q1,q2,q3,q4,q5⟩:=setCells_block cs (L.off+e*L.sz+j) w c u4 hfit;have hplt:p<mem.length:=(A0.1 hp).1;have hne:L.b≠Lp.b:=(b7 e0 j0 _ u1).2.2.2;have hO:Owned mem ρ p L.b:=⟨Lp,_,g2,hp,rfl,.inr ⟨e0,j0,u1⟩⟩;have hw:∀b,b≠L.b->(w.setCells L.b (L.off+e*L.sz+j) cs).heap[b]? =w.heap[b]? :=q4;have hget:∀i,i≠p->((dropB p mem).set p (some (.deep kp (rp.setR e0 j0 r1) none)))[i]? =(dropB p mem)[i]? :=fun i hi=>List.getElem?_set_ne fun h=>hi h.symm;refine⟨c,T,u3,u4,hfit,?_⟩;obtain⟨ρ',m1,m2,_⟩:=hm.upd (q:=p) (blk:=.deep kp (rp.setR e0 j0 r1) none) (L:=Lp) (mem':=(dropB p mem).set p (some (.deep kp (rp.setR e0 j0 r1) none))) (w':=w.setCells L.b (L.off+e*L.sz+j) cs) (by simp[dropB_len]) (by rw[List.getElem?_set_self (by rw[dropB_len];exact hplt)])
  (fun i b hi hb'=>by
   rw[hget i hi]at hb';obtain⟨p1,p2⟩:=dropB_get hb';refine⟨p1,fun p' e2 j2 ks2 r2 hbr=>?_⟩;subst hbr;obtain⟨L2,_,hr2⟩:=hm.blk i _ p1;obtain⟨_,_,_,_,_,Lp2,kps2,rp2,hh2,a2,p3,_⟩:=hr2;have hne:p'≠p:=by rintro rfl;exact p2 _ _ _ _ rfl
   exact⟨hne,by rw[hget p' hne];exact dropB_set (fun q e j ks r hq=>by rw[p3]at hq;cases hq)⟩)
  (fun b hb'=>.inr ⟨p,⟨Lp,_,g2,hp,rfl,hb'⟩,.inl rfl⟩) (by rw[q5];exact AC _)
  (fun b _ hc=>hw b fun h0=>(hc p (h0▸hO)).1 rfl)
  (fun ρ''=>by
   refine⟨b1,b2,b3,b4,fun ht=>?_,fun e' j' k he' hk=>?_,b7,b8⟩
   ·obtain⟨x1,c2,T2,x2,x3⟩:=b5 ht;exact⟨x1,c2,T2,(hw _ hne.symm).trans x2,x3⟩
   ·obtain⟨v,x1,x2⟩:=b6 e' j' k he' hk;refine⟨v,(World.cell?_of_block (a:=⟨Lp.b,Lp.off+e'*kp.length+j',none⟩) (hw _ hne.symm)).trans x1,?_⟩;by_cases hin:e'=e0∧j'=j0
    ·obtain⟨rfl,rfl⟩:=hin;rw[g4]at hk;cases hk;rw[g7]at x1;cases x1;refine⟨f1,rfl,fun _=>⟨a,L.tot,?_,?_,.inr ⟨L.b,L.off,c',T,u1,u2,u3,q1,by rw[q2];exact u5,?_⟩⟩⟩
     ·have:(rp.setR e' j' r1).R e' j'=r1:=by simp only[Row.setR,Row.R,hit,cond_true]
      rw[this,k3]
     ·have:(rp.setR e' j' r1).R e' j'=r1:=by simp only[Row.setR,Row.R,hit,cond_true]
      rw[this,k3];exact v4
     ·have:(rp.setR e' j' r1).R e' j'=r1:=by simp only[Row.setR,Row.R,hit,cond_true]
      rw[this];rw[f3]at q3;exact rds_write (ok':=okB mem1 ρ1 w) f1 u4 q1 k3 (by omega) q3 (fun k e2 j2 v hne hc=>k5 _ w k e2 j2 v (by rw[<-hl];exact hne) hc) k6 u6
    ·have hs:SameC rp (rp.setR e0 j0 r1) e' j':=⟨rfl,rfl,rfl,by simp only[Row.setR,Row.R,miss (show e'≠e0∨j'≠j0 by omega),cond_false]⟩;refine(hs.dcell x2).mono fun b hb'=>hw b ?_;rintro rfl;obtain⟨z1,z2⟩:=b8 hmany _ _ _ _ _ hb' u1;exact hin ⟨z1,z2⟩)
  (fun _=>⟨Lp,Lp.own,Lp.sub,g2,rfl,fun h=>h⟩)
 exact⟨ρ',m1,m2⟩
theorem storeD_sound{mem1:List (Option Blk)}{t:TypeId}{x v cx cv:Value}(h:storeD P mem t x v=some (true,mem1))(hm:MemR mem ρ B w)(hx:V ρ mem.length x cx)(hv:V ρ mem.length v cv):
  ∃w' ρ1,(Instr.storeAt t cx cv).run P w=.ok () w'∧MemR mem1 ρ1 B w'∧mem1.length=mem.length∧(∀i,i<mem.length->Less ρ ρ1 i)∧∀W0,Below B W0 w->Below B W0 w':=by
 unfold storeD at h;split at h
 ·rename_i id e j i hi hone;have hunk:=one_unk hone;obtain⟨hlen,hcells⟩:=hv.cells hunk;have hones:∀u∈cv.cells.toList,u.oneCell'=true:=by
   intro u hu;obtain⟨n,hn⟩:=List.getElem?_of_mem hu;have hlt:n<(lcells v).length:=by
    rw[hlen];have:=(A0.1 hn).1;simpa using this
   have h1:=hcells n _ u (AK hlt) (by simpa using hn);exact cell1_one h1 (List.all_eq_true.1 hone _ (List.getElem_mem hlt))
  have hcs:∀(n:Nat)(p q:Value),(lcells v)[n]? =some p->cv.cells.toList[n]? =some q->V ρ mem.length p q:=fun n p q hp hq=>hcells n p q hp (by simpa using hq);have hll:cv.cells.toList.length=(lcells v).length:=by simp[hlen]
  split at h
  ·rename_i hsz0;obtain⟨hsz,hpos⟩:=hsz0;split at h
   ·rename_i ks r hh hb;split at h
    ·rename_i r1 m1 hset;obtain⟨hmany,hset⟩:=onlyS_some hset;cases hx with
     |ptrDead g1 g2=>exact absurd g2 (live_of hm hb)
     |@ptr _ _ _ L g1 g2 g3=>
      have hLn:e<r.n:=by
       obtain⟨M,hM,hbr⟩:=hm.blk _ _ hb;rw[g2]at hM;cases hM;have:=hbr.1;omega
      have hfew:m1.length=mem.length:=by
       obtain⟨_,_,_,h3,_⟩:=setDeeps_sound hm (lcells v) mem m1 r r1 j (ks.drop j) cv.cells.toList (.refl mem) hset hll hcs;exact h3.1
      have fin:(∀e' j',isHole hh e' j'=true->e'=e∧j<=j'∧j'<j+(lcells v).length)->mem1=(dropB id m1).set id (some (.deep ks r1 none))->
        ∃w' ρ1,(Instr.storeAt t (.pointer (some (L.adr e j))) cv).run P w=.ok () w'∧MemR mem1 ρ1 B w'∧mem1.length=mem.length∧(∀i,i<mem.length->Less ρ ρ1 i)∧∀W0,Below B W0 w->Below B W0 w':=by
       intro hho he;obtain⟨c,T,k1,k2,k3,ρ',k4,k5⟩:=storeDeep hm hb g2 hLn hset hll hcs (by omega) hmany hho;exact⟨_,ρ',run_storeAt hi (by omega) k2 (by rw[Array.length_toList]at k3;exact k3) hones,by rw[he];exact k4,by rw[he];simp[dropB_len,hfew],k5,fun W0 hW=>below_setCells hW k1⟩
      split at h
      ·simp only[A5,A6,true_and]at h;exact fin (fun _ _ h0=>by cases h0) h.symm
      ·rename_i eh jh;split at h
       ·rename_i hbeq;simp only[A5,A6,A3]at h;obtain⟨rfl,he⟩:=h;rw[A2]at hbeq;have hj:=AF hbeq.2;refine fin (fun e' j' h0=>?_) he.symm;simp only[isHole,A2]at h0;have h1:=AF h0.1;have h2:=AF h0.2;exact⟨h1,by omega,by omega⟩
       ·cases h
    ·cases h
   ·rename_i p e0 j0 ks r hb;split at h
    ·rename_i r1 m1 kp rp hset hp;obtain⟨hmany,h⟩:=onlyS_some h;simp only[A5,A6,true_and]at h;cases hx with
     |ptrDead g1 g2=>exact absurd g2 (live_of hm hb)
     |@ptr _ _ _ L g1 g2 g3=>
      have hLn:e<r.n:=by
       obtain⟨M,hM,hbr⟩:=hm.blk _ _ hb;rw[g2]at hM;cases hM;have:=hbr.2.1;omega
      obtain⟨c,T,k1,k2,k3,ρ',k4,k5⟩:=storeBor hm hb hp g2 hLn hset hll hcs (by omega) hmany;exact⟨_,ρ',run_storeAt hi (by omega) k2 (by rw[Array.length_toList]at k3;exact k3) hones,by rw[<-h];exact k4,by rw[<-h];simp[dropB_len],k5,fun W0 hW=>below_setCells hW k1⟩
    ·cases h
   ·cases h
  ·cases h
 ·cases h
theorem MemR.take(hm:MemR mem ρ B w){id p e j:Nat}{ks kp:List CK}{r rp:Row}(hb:mem[id]? =some (some (.bor p e j ks r)))(hp:mem[p]? =some (some (.deep kp rp none)))(hmany:manyS kp=false):
  ∃ρ',MemR (takeM mem id p e j ks kp r rp) ρ' B w∧(∀i,i<mem.length->Less ρ ρ' i)∧(∀b,okB mem ρ w b->okB (takeM mem id p e j ks kp r rp) ρ' w b):=by
 obtain⟨L,hL,f1,f2,f3,f4,f5,Lp,kp',rp',h,a,g1,g2,g3,g4,g5,g6,g0,g7,g8⟩:=hm.blk _ _ hb;rw[hp]at g1;cases g1;obtain⟨Mp,hMp,b1,b2,b3,b4,b5,b6,b7,b8⟩:=hm.blk p _ hp;replace b8:=b8 hmany;rw[g2]at hMp;cases hMp;obtain⟨v,v1,v2⟩:=b6 e j _ g3 g4;rw[g7]at v1;cases v1;obtain⟨a',cap,v3,v4,v5⟩:=v2.2.2 rfl;obtain⟨w1,_,w3⟩:=Value.slice.inj v3;subst w1;subst w3;rw[g6]at v4 v5;have hne:id≠p:=by rintro rfl;rw[hb]at hp;cases hp
 have hidlt:id<mem.length:=(A0.1 hb).1;have hplt:p<mem.length:=(A0.1 hp).1;have hsub:0<L.tot->Lp.sub e j=some L.b∧B<=L.b∧(∃c T,w.heap[L.b]? =some (.cells c T (0,0))∧L.off+L.tot*L.sz<=c.size)∧Rds (fun _=>False) w ks r L.b L.off:=by
  intro ht;rcases v5 with⟨v5,_⟩|⟨b,off,c,T,u1,u2,u3,u4,u5,u6⟩
  ·omega
  ·have ha:L.b=b∧L.off=off:=by
    rcases g8 with g8|g8
    ·omega
    ·rw[u2]at g8;cases g8;exact⟨rfl,rfl⟩
   obtain⟨rfl,rfl⟩:=ha;exact⟨u1,u3,⟨c,T,u4,by rw[f3];exact u5⟩,u6⟩
 let Lp':Loc:={Lp with sub:=fun e' j'=>if e'=e∧j'=j then none else Lp.sub e' j'}
 let m':=takeM mem id p e j ks kp r rp
 let ρn:Map:=fun i=>if i=id then some L else if i=p then some Lp' else match m'[i]? with|some (some _)=>ρ i|_=>none
 have hid':m'[id]? =some (some (.row ks true r)):=by
  show(takeM mem id p e j ks kp r rp)[id]? =_;unfold takeM;rw[List.getElem?_set_self (by simp[dropB_len];exact hidlt)]
 have hp':m'[p]? =some (some (.deep kp rp (some (e,j)))):=by
  show(takeM mem id p e j ks kp r rp)[p]? =_;unfold takeM;rw[List.getElem?_set_ne hne,List.getElem?_set_self (by rw[dropB_len];exact hplt)]
 have hoth:∀i,i≠id->i≠p->m'[i]? =(dropB p mem)[i]? :=fun i h1 h2=>by
  show(takeM mem id p e j ks kp r rp)[i]? =_;unfold takeM;rw[List.getElem?_set_ne fun h=>h1 h.symm,List.getElem?_set_ne fun h=>h2 h.symm]
 have nid:ρn id=some L:=by simp[ρn]
 have np:ρn p=some Lp':=by
  show(if p=id then some L else if p=p then some Lp' else match m'[p]? with|some (some _)=>ρ p|_=>none)=some Lp'
  rw[AL fun h=>hne h.symm,AM rfl]
 have nold:∀i b,i≠id->i≠p->m'[i]? =some (some b)->ρn i=ρ i:=fun i b h1 h2 hb=>by simp[ρn,h1,h2,hb]
 have ndead:∀i,i≠id->i≠p->(∀b,m'[i]? ≠some (some b))->ρn i=none:=fun i h1 h2 hb=>by
  show(if i=id then some L else if i=p then some Lp' else match m'[i]? with|some (some _)=>ρ i|_=>none)=none
  rw[AL h1,AL h2];cases hm:m'[i]? with
  |none=>rfl
  |some c=>
   cases c with
   |none=>rfl
   |some c=>exact absurd hm (hb c)
 have hOp:∀b,Lp.foot b->Owned mem ρ p b:=fun b hb'=>⟨Lp,_,g2,hp,rfl,hb'⟩;have hown:∀i b,Owned m' ρn i b->(i=id∧b=L.b∧Owned mem ρ p b)∨(i=p∧Owned mem ρ p b∧(0<L.tot->b≠L.b))∨(i≠id∧i≠p∧Owned mem ρ i b):=by
  intro i b ⟨M,c,x1,x3,x4,x2⟩;by_cases h1:i=id
  ·subst h1;rw[nid]at x1;cases x1;obtain⟨y1,y2⟩:=Loc.foot_s0 f5 x2;exact .inl ⟨rfl,y2,by rw[y2];exact hOp _ (.inr ⟨e,j,(hsub y1).1⟩)⟩
  ·by_cases h2:i=p
   ·subst h2;rw[np]at x1;cases x1;refine .inr (.inl ⟨rfl,?_⟩);rcases x2 with⟨y1,y2⟩|⟨e',j',y1⟩
    ·refine⟨hOp b (.inl ⟨y1,y2⟩),fun ht=>?_⟩;rw[y2];exact fun h0=>(b7 e j L.b (hsub ht).1).2.2.2 h0.symm
    ·simp only[Lp']at y1;split at y1
     ·cases y1
     ·rename_i hin;refine⟨hOp b (.inr ⟨e',j',y1⟩),fun ht h0=>?_⟩;subst h0;obtain⟨z1,z2⟩:=b8 _ _ _ _ _ y1 (hsub ht).1;exact hin ⟨z1,z2⟩
   ·rw[nold i c h1 h2 x3]at x1;rw[hoth i h1 h2]at x3;exact .inr (.inr ⟨h1,h2,M,c,x1,(dropB_get x3).1,x4,x2⟩)
 have hok:∀b,okB mem ρ w b->okB m' ρn w b:=fun b hb'=>⟨hb'.1,fun i ho=>by
  rcases hown i b ho with⟨_,_,h1⟩|⟨_,h1,_⟩|⟨_,_,h1⟩
  ·exact hb'.2 _ h1
  ·exact hb'.2 _ h1
  ·exact hb'.2 _ h1⟩
 have hless:∀i,i<mem.length->Less ρ ρn i:=by
  intro i hi;by_cases h1:i=id
  ·subst h1;exact .inl (nid.trans hL.symm)
  ·by_cases h2:i=p
   ·subst h2;exact .inr (.inr ⟨Lp,Lp.own,Lp'.sub,g2,np,fun h=>h⟩)
   ·cases hm:m'[i]? with
    |none=>exact .inr (.inl (ndead i h1 h2 fun b hb=>by rw[hm]at hb;cases hb))
    |some c=>
     cases c with
     |none=>exact .inr (.inl (ndead i h1 h2 fun b hb=>by rw[hm]at hb;cases hb))
     |some c=>exact .inl (nold i c h1 h2 hm)
 refine⟨ρn,hm.step (by show mem.length<=(takeM mem id p e j ks kp r rp).length;simp[takeM,dropB_len]) hless (fun b hb'=>⟨hok b hb',rfl⟩) (fun i b hi=>?_) (fun i hi=>?_) (fun i i' b hi hj=>?_),hless,hok⟩
 ·by_cases h1:i=id
  ·subst h1;rw[hid']at hi;cases hi;refine .inr ⟨L,nid,f2,f3,fun _=>⟨f4,v4,fun ht=>⟨(hsub ht).2.1,(hsub ht).2.2.1⟩⟩,fun hn=>⟨(fun hf=>by cases hf),(hsub (by omega)).2.2.2.plain f1⟩,f5⟩
  ·by_cases h2:i=p
   ·subst h2;rw[hp']at hi;cases hi;refine .inr ⟨Lp',np,b1,b2,b3,b4,b5,fun e' j' k he' hk=>?_,fun e' j' b hs=>?_,fun _ e1 j1 e2 j2 b hs1 hs2=>?_⟩
    ·obtain⟨v,x1,x2⟩:=b6 e' j' k he' hk;refine⟨v,x1,?_⟩;cases k with
     |slice s=>
      refine⟨x2.1,x2.2.1,fun hh=>?_⟩;have hin:¬(e'=e∧j'=j):=by
       rintro⟨rfl,rfl⟩;simp[isHole]at hh
      have:Lp'.sub e' j'=Lp.sub e' j':=by simp only[Lp',hin,if_false]
      rw[this];exact x2.2.2 rfl
     |int k=>exact x2
     |bool=>exact x2
     |str=>exact x2
     |other=>exact x2
    ·simp only[Lp']at hs;split at hs
     ·cases hs
     ·rename_i hin;obtain⟨y1,y2,_,y4⟩:=b7 e' j' b hs;refine⟨y1,y2,?_,y4⟩;simp only[isHole];exact miss (by omega)
    ·simp only[Lp']at hs1 hs2;split at hs1
     ·cases hs1
     ·split at hs2
      ·cases hs2
      ·exact b8 _ _ _ _ _ hs1 hs2
   ·have hi':=hi;rw[hoth i h1 h2]at hi';obtain⟨x1,x2⟩:=dropB_get hi';refine .inl ⟨x1,nold i b h1 h2 hi,fun _ _ _ _ _=>rfl,fun p2 e2 j2 ks2 r2 hbr kps rp2 hh Lp2 q1 q2=>?_⟩;subst hbr;have y1:p2≠p:=by rintro rfl;exact x2 _ _ _ _ rfl
    have y2:p2≠id:=by rintro rfl;rw[hb]at q1;cases q1
    have y3:m'[p2]? =some (some (.deep kps rp2 hh)):=by
     rw[hoth p2 y2 y1,dropB_set (fun q e j ks r hq=>by rw[q1]at hq;cases hq)];exact q1
    exact⟨y3,(nold p2 _ y2 y1 y3).trans q2,fun _=>rfl⟩
 ·have h1:i≠id:=by rintro rfl;exact hi _ hid'
  have h2:i≠p:=by rintro rfl;exact hi _ hp'
  exact ndead i h1 h2 hi
 ·have hbt:∀b,Owned m' ρn id b->b=L.b∧0<L.tot:=by
   intro b ⟨M,c,x1,_,_,x2⟩;rw[nid]at x1;cases x1;obtain⟨y1,y2⟩:=Loc.foot_s0 f5 x2;exact⟨y2,y1⟩
  rcases hown i b hi with⟨rfl,x2,x3⟩|⟨rfl,x2,x3⟩|⟨x0,x1,x2⟩<;>rcases hown i' b hj with⟨rfl,y2,y3⟩|⟨rfl,y2,y3⟩|⟨y0,y1,y2⟩
  ·rfl
  ·exact absurd x2 (y3 (hbt b hi).2)
  ·exact absurd (hm.inj _ _ b x3 y2).symm y1
  ·exact absurd y2 (x3 (hbt b hj).2)
  ·rfl
  ·exact absurd (hm.inj _ _ b x2 y2).symm y1
  ·exact absurd (hm.inj _ _ b x2 y3) x1
  ·exact absurd (hm.inj _ _ b x2 y2) x1
  ·exact hm.inj i i' b x2 y2
theorem takeDst_sound(hm:MemR mem ρ B w)(s:Value):∃ρ',MemR (takeDst mem s) ρ' B w∧(takeDst mem s).length=mem.length∧∀i,i<mem.length->Less ρ ρ' i:=by
 unfold takeDst;split
 ·split
  ·rename_i p e j ks r hb;split
   ·rename_i kp rp hp;split
    ·exact⟨ρ,hm,rfl,fun _ _=>.inl rfl⟩
    ·rename_i hmany;obtain⟨ρ',h1,h2,_⟩:=hm.take hb hp hmany;exact⟨ρ',h1,by simp[takeM,dropB_len],h2⟩
   ·exact⟨ρ,hm,rfl,fun _ _=>.inl rfl⟩
  ·exact⟨ρ,hm,rfl,fun _ _=>.inl rfl⟩
 ·exact⟨ρ,hm,rfl,fun _ _=>.inl rfl⟩
end
open Go.MapKept
section
variable{P:Program}{mem mem':List (Option Blk)}{ρ ρ':Map}{B:Nat}{w w':World}
theorem MemR.newMap(h:MemR mem ρ B w)(hB:B<=w.heap.size){k:CK}{z:Value}(hk:mapV k (fun _=>0) (fun _=>false)=some (z,fun _=>z)):
  MemR (mem++[some (.map k (fun _=>0) (fun _=>false))]) (Map.snoc ρ mem.length ⟨w.heap.size,0,0,1,1,true,s0⟩) B (w.alloc (.map #[] 0)):=by
 refine h.alloc (Below.alloc (Below.refl _ _) (AC _) _) (fun _=>Loc.fresh rfl fun _=>AC _) ⟨hB,Nat.one_pos,rfl,#[],0,?_,z,_,hk,fun x hx=>by simp at hx,fun s=>rfl⟩;show(w.heap.push _)[w.heap.size]? =_;simp
theorem bytes_sound(h:MemR mem ρ B w)(s:ByteArray){src dst e:TypeId}(hs:P.underlying src=some .string)(hd:P.underlying dst=some (.slice e))(he:P.underlying e=some (.int .u8)):
  ∃L cv w',(convert src dst (.string s)).run P w=.ok cv w'∧MemR (mem++[some (.row [.int .u8] false (Ev.bytesRow s))]) (Map.snoc ρ mem.length L) B w'∧V (Map.snoc ρ mem.length L) (mem.length+1) (sl0 s.size mem.length) cv∧Below w.heap.size w w':=by
 have hrun:=run_bytes_of_string (P:=P) w src dst e s hs hd he;have hge:s.size<=grownCap w s.size 0 e:=grownCap_ge w s.size 0 e;have hb:Below w.heap.size w (w.drew.alloc (.cells (Go.bytesRow s (grownCap w s.size 0 e)) e ((Go.bytesRow s (grownCap w s.size 0 e)).size,(Go.bytesRow s (grownCap w s.size 0 e)).size+1))):=((Below.refl _ _).drew).alloc (AC _) _;have hg:(w.drew.alloc (.cells (Go.bytesRow s (grownCap w s.size 0 e)) e ((Go.bytesRow s (grownCap w s.size 0 e)).size,(Go.bytesRow s (grownCap w s.size 0 e)).size+1))).heap[w.heap.size]? =some (.cells (Go.bytesRow s (grownCap w s.size 0 e)) e ((Go.bytesRow s (grownCap w s.size 0 e)).size,(Go.bytesRow s (grownCap w s.size 0 e)).size+1)):=by
  show(w.heap.push _)[w.heap.size]? =_;simp
 have hsz:w.heap.size<(w.drew.alloc (.cells (Go.bytesRow s (grownCap w s.size 0 e)) e ((Go.bytesRow s (grownCap w s.size 0 e)).size,(Go.bytesRow s (grownCap w s.size 0 e)).size+1))).heap.size:=by
  show w.heap.size<(w.heap.push _).size;simp
 refine⟨⟨w.heap.size,0,1,s.size,s.size,false,s0⟩,_,_,hrun,?_,?_,hb⟩
 ·refine h.alloc hb (fun h=>by cases h) ⟨rfl,rfl,(fun h=>by cases h),fun hn=>⟨fun _=>⟨hsz,fun id ho=>?_⟩,?_⟩,rfl⟩
  ·obtain⟨L,blk,g1,g2,g3,g4⟩:=ho;rcases get_snoc g2 with⟨g5,g6⟩|⟨_,g6⟩
   ·rw[Map.snoc_old g6]at g1;have:=own_lt h ⟨L,blk,g1,g5,g3,g4⟩;simp only[Nat.lt_irrefl]at this
   ·cases g6;cases g3
  ·refine .mk (fun e _=>.int .u8 ((Ev.bytesRow s).I e 0)) (fun e j k he hk=>?_) (fun e j k he hk=>?_)
   ·match j,hk with
    |0,hk=>
     have he:e<s.size:=he;simp only[World.cell?,hg,Option.isSome_none,Bool.false_eq_true,if_false,AE,List.length_cons,List.length_nil,Nat.mul_one,Nat.add_zero];simp[Go.bytesRow,Ev.bytesRow,Row.I,Array.getElem?_append,he,Array.getD_eq_getD_getElem?]
   ·match j,hk with
    |0,hk=>cases hk;exact .int
 ·exact .slice (L:=⟨w.heap.size,0,1,s.size,s.size,false,s0⟩) (by omega) Map.snoc_new (by simp) hge (fun _=>by simp[Loc.adr]) (fun h=>by cases h)
theorem bytesEq_iff(a b:ByteArray):(a.toList==b.toList)=true↔a=b:=by
 rw[<-beq_toListBytes];exact bytes_beq a b
theorem mget_modify{z v:Value}{s:ByteArray}:∀(l:List MapEntry)(i j:Nat)(u:Value),(∀x∈l,∃t,x.key=.string t)->Instr.findNow .string (.string s) l i=some (some (i+j,u))->
  (∀x∈l.modify j (fun e=>{e with key:=.string s,val:=v}),∃t,x.key=.string t)∧∀t,mget z (l.modify j (fun e=>{e with key:=.string s,val:=v})) t=if t=s then v else mget z l t
 |[],i,j,u,_,h=>by simp[Instr.findNow]at h
 |e::es,i,j,u,hk,h=>by
  obtain⟨t,ht⟩:=hk e (.head _);have hk':∀x∈es,∃t,x.key=.string t:=fun x hx=>hk x (.tail _ hx);by_cases hts:t=s
  ·subst hts;have:(t==t)=true:=(bytes_beq t t).2 rfl;simp only[Instr.findNow,Instr.sameNow,ht,this,A5,A6]at h;obtain rfl:j=0:=by omega
   refine⟨fun x hx=>?_,fun t'=>?_⟩
   ·rw[List.modify_zero_cons]at hx;cases hx with
    |head=>exact⟨t,rfl⟩
    |tail _ hx=>exact hk' x hx
   ·rw[List.modify_zero_cons];simp only[mget,ht];by_cases h1:t=t'
    ·subst h1;simp
    ·rw[AL h1,AL h1,AL (fun h=>h1 h.symm)]
  ·have hne:(s==t)=false:=by
    cases hb:s==t with
    |false=>rfl
    |true=>exact absurd ((bytes_beq s t).1 hb).symm hts
   simp only[Instr.findNow,Instr.sameNow,ht,hne]at h;cases j with
   |zero=>
    exfalso;rcases mget_find (z:=z) (s:=s) es (i+1) hk' with⟨h1,_⟩|⟨j,e',h1,_⟩
    ·rw[h1]at h;cases h
    ·rw[h1]at h;simp only[A5,A6]at h;omega
   |succ j=>
    obtain⟨h1,h2⟩:=mget_modify (z:=z) (v:=v) es (i+1) j u hk' (by rw[h,Nat.add_assoc,Nat.add_comm 1]);refine⟨fun x hx=>?_,fun t'=>?_⟩
    ·rw[List.modify_succ_cons]at hx;cases hx with
     |head=>exact⟨t,ht⟩
     |tail _ hx=>exact h1 x hx
    ·rw[List.modify_succ_cons];simp only[mget,ht,h2 t'];by_cases h1:t=t'
     ·subst h1;rw[AM rfl,AL hts,AM rfl]
     ·rw[AL h1,AL h1]
theorem mget_push{z v:Value}{s:ByteArray}{c:Nat}:∀(l:List MapEntry)(i:Nat),(∀x∈l,∃t,x.key=.string t)->Instr.findNow .string (.string s) l i=some none->
  (∀x∈l++[({key:=.string s,val:=v,born:=c}:MapEntry)],∃t,x.key=.string t)∧∀t,mget z (l++[({key:=.string s,val:=v,born:=c}:MapEntry)]) t=if t=s then v else mget z l t
 |[],i,_,h=>by
  refine⟨fun x hx=>?_,fun t=>?_⟩
  ·simp at hx;subst hx;exact⟨s,rfl⟩
  ·simp only[List.nil_append,mget];by_cases h1:s=t
   ·rw[AM h1,AM h1.symm]
   ·rw[AL h1,AL (fun h=>h1 h.symm)]
 |e::es,i,hk,h=>by
  obtain⟨t,ht⟩:=hk e (.head _);by_cases hts:t=s
  ·subst hts;have:(t==t)=true:=(bytes_beq t t).2 rfl;simp[Instr.findNow,Instr.sameNow,ht,this]at h
  ·have hne:(s==t)=false:=by
    cases hb:s==t with
    |false=>rfl
    |true=>exact absurd ((bytes_beq s t).1 hb).symm hts
   simp only[Instr.findNow,Instr.sameNow,ht,hne]at h;obtain⟨h1,h2⟩:=mget_push (z:=z) (v:=v) (c:=c) es (i+1) (fun x hx=>hk x (.tail _ hx)) h;refine⟨fun x hx=>?_,fun t'=>?_⟩
   ·rw[List.cons_append]at hx;cases hx with
    |head=>exact⟨t,ht⟩
    |tail _ hx=>exact h1 x hx
   ·rw[List.cons_append];simp only[mget,ht,h2 t'];by_cases h1:t=t'
    ·subst h1;rw[AM rfl,AL hts,AM rfl]
    ·rw[AL h1,AL h1]
theorem run_mapUpdate_str{t kt et:TypeId}{r:Nat}{s:ByteArray}{v z:Value}{es:Array MapEntry}{clock:Nat}(ht:P.underlying t=some (.map kt et))(hk:P.underlying kt=some .string)(hb:w.heap[r]? =some (.map es clock))
  (hes:∀x∈es.toList,∃t,x.key=.string t):∃es' clock',(Instr.mapUpdate t (.map (some r)) (.string s) v).run P w=.ok () {w with heap:=w.heap.setIfInBounds r (.map es' clock')}∧
   (∀x∈es'.toList,∃t,x.key=.string t)∧∀t,mget z es'.toList t=if t=s then v else mget z es.toList t:=by
 have hck:(Instr.checkKey false 10000 kt (.string s)).run P w=.ok () w:=MapKept.run_checkKey (w:=w) hk (k:=.string s) trivial false 9999;rcases mget_find (z:=z) (s:=s) es.toList 0 hes with⟨h1,_⟩|⟨j,e,h1,h2,h3,_⟩
 ·have hf:=MapKept.run_findKey (w:=w) hk h1;obtain⟨g1,g2⟩:=mget_push (z:=z) (v:=v) (c:=clock) es.toList 0 hes h1;refine⟨es.push {key:=.string s,val:=v,born:=clock},clock+1,?_,by simpa using g1,by simpa using g2⟩;simp[Instr.mapUpdate,run_underlying ht,MapKept.run_getObj_map hb,hck,hf,MapKept.run_setObj_map _ hb]
 ·have hf:=MapKept.run_findKey (w:=w) hk h1;rw[AE]at hf h1;obtain⟨g1,g2⟩:=mget_modify (z:=z) (v:=v) es.toList 0 j e.val hes (by rw[AE];exact h1);have hej:es[j]? =some e:=by simpa using h2
  have hbb:(s==s)=true:=(bytes_beq s s).2 rfl;refine⟨es.modify j fun e=>{e with key:=.string s,val:=v},clock,?_,by simpa using g1,by simpa using g2⟩;simp[Instr.mapUpdate,run_underlying ht,MapKept.run_getObj_map hb,hck,hf,Instr.keyThatStays,hej,h3,Instr.sameBits,hbb,MapKept.run_setObj_map _ hb]
theorem mapStore_sound{mem1:List (Option Blk)}{m x v cm cx cv:Value}{t kt et:TypeId}(h:mapStore mem m x v=some mem1)(hm:MemR mem ρ B w)(ht:P.underlying t=some (.map kt et))(hk:P.underlying kt=some .string)
  (h1:V ρ mem.length m cm) (h2:V ρ mem.length x cx) (h3:V ρ mem.length v cv):
  ∃w' ρ1,(Instr.mapUpdate t cm cx cv).run P w=.ok () w'∧MemR mem1 ρ1 B w'∧mem1.length=mem.length∧(∀i,i<mem.length->Less ρ ρ1 i)∧∀W0,Below B W0 w->Below B W0 w':=by
 have key:∀{id:Nat}{s:ByteArray}{k:CK}{I I':ByteArray->Int}{Bo Bo':ByteArray->Bool}{z:Value}{f f':ByteArray->Value}(hb:mem[id]? =some (some (.map k I Bo)))(hv:V ρ mem.length (.map (some id)) cm)(hf:mapV k I Bo=some (z,f))(hf':mapV k I' Bo'=some (z,f'))
   (hff:∀t,f' t=if t=s then cv else f t),∃w' ρ1,(Instr.mapUpdate t cm (.string s) cv).run P w=.ok () w'∧MemR (mem.set id (some (.map k I' Bo'))) ρ1 B w'∧(mem.set id (some (.map k I' Bo'))).length=mem.length∧(∀i,i<mem.length->Less ρ ρ1 i)∧∀W0,Below B W0 w->Below B W0 w':=by
  intro id s k I I' Bo Bo' z f f' hb hv hf hf' hff;obtain⟨L,hL,q1,q2,q3,es,clock,q4,z0,f0,q5,q6,q7⟩:=hm.blk id _ hb;rw[hf]at q5;cases q5;have hid:id<mem.length:=(A0.1 hb).1;cases hv with
  |mapDead _ g=>exact absurd g (live_of hm hb)
  |@map _ M _ g=>
   rw[hL]at g;cases g;obtain⟨es',clock',r1,r2,r3⟩:=run_mapUpdate_str (P:=P) (v:=cv) (z:=z) (s:=s) ht hk q4 q6;obtain⟨u1,u2⟩:=heap_set (o':=.map es' clock') q4;have hO:Owned mem ρ id L.b:=⟨L,_,hL,hb,rfl,.inl ⟨q2,rfl⟩⟩;obtain⟨ρ',m1,m2,_⟩:=hm.upd (w':={w with heap:=w.heap.setIfInBounds L.b (.map es' clock')}) (mem':=mem.set id (some (.map k I' Bo'))) (q:=id) (blk:=.map k I' Bo') (L:=L) (by simp) (by rw[List.getElem?_set_self hid]) (fun i b hi hb'=>by
     rw[List.getElem?_set_ne (fun h=>hi h.symm)]at hb';refine⟨hb',fun p e j ks r hbr=>?_⟩;subst hbr;obtain⟨_,_,hr⟩:=hm.blk i _ hb';obtain⟨_,_,_,_,_,Lp,kps,rp,hh,a,g1,_⟩:=hr;have hp:p≠id:=by
      rintro rfl;rw[hb]at g1;cases g1
     exact⟨hp,by rw[List.getElem?_set_ne (fun h=>hp h.symm)]⟩)
    (fun b hb'=>by
     obtain⟨_,rfl⟩:=Loc.foot_s0 q3 hb';exact .inr ⟨id,hO,.inl rfl⟩) (by simp)
    (fun b _ hb'=>u2 b fun he=>(hb' id (he▸hO)).1 rfl)
    (fun ρ'=>⟨q1,q2,q3,es',clock',u1,z,f',hf',r2,fun t=>by rw[r3,hff,q7]⟩)
    (fun _=>⟨L,L.own,L.sub,hL,rfl,fun h=>h⟩)
   refine⟨_,ρ',r1,m1,by simp,m2,fun W0 hW=>⟨hW.os,hW.tape,hW.output,by simpa using hW.size,fun k hk=>?_⟩⟩;have hne:k≠L.b:=by omega
   exact(u2 k hne).trans (hW.block k hk)
 unfold mapStore at h;split at h
 ·rename_i id s;cases h2;split at h
  ·rename_i kd I Bo kd' n hb;split at h
   ·rename_i hs;cases same_eq hs;cases h;cases h3;exact key hb h1 rfl rfl fun t=>by
     unfold updI;by_cases hts:t=s
     ·rw[AM hts,(bytesEq_iff t s).2 hts];rfl
     ·rw[AL hts];cases hb':t.toList==s.toList with
      |true=>exact absurd ((bytesEq_iff t s).1 hb') hts
      |false=>rfl
   ·cases h
  ·rename_i I Bo b hb;cases h;cases h3;exact key hb h1 rfl rfl fun t=>by
    unfold updB;by_cases hts:t=s
    ·rw[AM hts,(bytesEq_iff t s).2 hts];rfl
    ·rw[AL hts];cases hb':t.toList==s.toList with
     |true=>exact absurd ((bytesEq_iff t s).1 hb') hts
     |false=>rfl
  ·cases h
 ·cases h
end
end Go.Ev

/- Part of a proof of a statement of this seat. No conditions. -/
import Derived.Test.YtkcnkimndhgkgaaGreatDoorXad
set_option linter.all false
namespace Go.Ev
open Go.RowKit
section
variable{P:Program}{mem mem1 mem':List (Option Blk)}{ρ ρ':Map}{B:Nat}{w w':World}
structure Killed(mem mem1:List (Option Blk))(D:Nat->Prop):Prop where
 len:mem1.length=mem.length
 old:∀(i:Nat)(b:Blk),mem1[i]? =some (some b)->mem[i]? =some (some b)∧¬D i∧∀p e j ks r,b=.bor p e j ks r->¬D p
 kept:∀i:Nat,¬D i->(∀p e j ks r,mem[i]? ≠some (some (.bor p e j ks r)))->mem1[i]? =mem[i]?
theorem Killed.refl(mem:List (Option Blk)):Killed mem mem (fun _=>False):=⟨rfl,fun _ _ h=>⟨h,id,fun _ _ _ _ _ _ h=>h⟩,fun _ _ _=>rfl⟩
theorem Killed.step{D:Nat->Prop}(h:Killed mem mem1 D)(p:Nat):Killed mem (killM p mem1) (fun i=>i=p∨D i):=by
 unfold killM;refine⟨by rw[dropB_len,List.length_set,h.len],fun i b hb=>?_,fun i hi hn=>?_⟩
 ·obtain⟨g1,g2⟩:=dropB_get hb;have hip:i≠p:=by
   rintro rfl;have:=(A0.1 g1).1;rw[List.getElem?_set_self (by simpa using this)]at g1;cases g1
  rw[List.getElem?_set_ne (fun h=>hip h.symm)]at g1;obtain⟨g3,g4,g5⟩:=h.old i b g1;refine⟨g3,fun hd=>hd.elim hip g4,fun q e j ks r hbr hd=>?_⟩;rcases hd with rfl|hd
  ·exact g2 e j ks r hbr
  ·exact g5 q e j ks r hbr hd
 ·have hip:i≠p:=fun h=>hi (.inl h);have e1:(mem1.set p none)[i]? =mem[i]? :=by
   rw[List.getElem?_set_ne (fun h=>hip h.symm)];exact h.kept i (fun h=>hi (.inr h)) hn
  rw[dropB_set (fun q e j ks r=>by rw[e1];exact hn q e j ks r),e1]
theorem DCell.one{k:CK}{r:Row}{e j:Nat}{hole:Bool}{ob:Option Nat}{v:Value}(h:DCell B w k r e j hole ob v):v.oneCell'=true:=by
 cases k with
 |slice sub=>exact h.2.1
 |int k=>cases h;rfl
 |bool=>cases h;rfl
 |str=>cases h;rfl
 |other=>cases h
theorem DCell.app_l{k:CK}{r s:Row}{e j:Nat}{hole:Bool}{ob:Option Nat}{v:Value}(he:e<r.n)(h:DCell B w k r e j hole ob v):DCell B w k (r.app s) e j hole ob v:=by
 have hb:Nat.blt e r.n=true:=by simp[Nat.blt_eq,he]
 cases k with
 |slice sub=>exact⟨h.1,h.2.1,fun hh=>by
   have e4:(r.app s).R e j=r.R e j:=by simp[Row.app,Row.R,hb]
   rw[e4];exact h.2.2 hh⟩
 |int k=>exact CellR.app_l he h
 |bool=>exact CellR.app_l he h
 |str=>exact CellR.app_l he h
 |other=>exact CellR.app_l he h
theorem DCell.app_r{k:CK}{r s:Row}{e j:Nat}{hole:Bool}{ob:Option Nat}{v:Value}(he:r.n<=e)(h:DCell B w k s (e-r.n) j hole ob v):DCell B w k (r.app s) e j hole ob v:=by
 have hb:Nat.blt e r.n=false:=by
  cases hh:Nat.blt e r.n with
  |false=>rfl
  |true=>rw[Nat.blt_eq]at hh;omega
 cases k with
 |slice sub=>exact⟨h.1,h.2.1,fun hh=>by
   have e4:(r.app s).R e j=s.R (e-r.n) j:=by simp[Row.app,Row.R,hb]
   rw[e4];exact h.2.2 hh⟩
 |int k=>exact CellR.app_r he h
 |bool=>exact CellR.app_r he h
 |str=>exact CellR.app_r he h
 |other=>exact CellR.app_r he h
def sub2(n n2:Nat)(s1 s2:Nat->Nat->Option Nat):Nat->Nat->Option Nat:=fun e j=>if e<n then s1 e j else if e-n<n2 then s2 (e-n) j else none
theorem deep_join(hm:MemR mem ρ B w){D:Nat->Prop}(hk:Killed mem mem1 D){ks:List CK}{r1 r2:Row}{v1 v2:Nat->Nat->Value}{s1 s2:Nat->Nat->Option Nat}{i1 i2:Nat}(h12:i1≠i2)(hD1:(∃e j b,e<r1.n∧s1 e j=some b)->D i1)(hD2:D i2)
  (d1:∀e j k,e<r1.n->ks[j]? =some k->DCell B w k r1 e j false (s1 e j) (v1 e j)) (d2:∀e j k,e<r2.n->ks[j]? =some k->DCell B w k r2 e j false (s2 e j) (v2 e j))
  (o1:∀e j b,e<r1.n->s1 e j=some b->Owned mem ρ i1 b∧∃s,ks[j]? =some (.slice s)) (o2:∀e j b,e<r2.n->s2 e j=some b->Owned mem ρ i2 b∧∃s,ks[j]? =some (.slice s))
  (j1:manyS ks=false->∀e j e' j' b,s1 e j=some b->s1 e' j'=some b->e=e'∧j=j') (j2:manyS ks=false->∀e j e' j' b,s2 e j=some b->s2 e' j'=some b->e=e'∧j=j')
  {b' off' tot:Nat} (hw:w.heap.size<=w'.heap.size) (hblk:0<tot->B<=b'∧∃(c:Array Value)(T:TypeId),w'.heap[b']? =some (.cells c T (0,0))∧off'+tot*ks.length<=c.size)
  (hown:0<tot->w.heap.size<=b'∨∃i,D i∧Owned mem ρ i b') (hsub:∀e j b,(e<r1.n∧s1 e j=some b)∨(e<r2.n∧s2 e j=some b)->b≠b') (hsame:∀b,b<w.heap.size->(0<tot->b≠b')->w'.heap[b]? =w.heap[b]?)
  (hcell:∀e j k,e<r1.n+r2.n->ks[j]? =some k->w'.cell? ⟨b',off'+e*ks.length+j,none⟩=some (if e<r1.n then v1 e j else v2 (e-r1.n) j)) (hn:r1.n+r2.n<=tot):
  ∃ρ',MemR (mem1++[some (.deep ks (r1.app r2) none)]) ρ' B w'∧(∀i,i<mem.length->Less ρ ρ' i)∧ρ' mem.length=some ⟨b',off',ks.length,tot,r1.n+r2.n,true,sub2 r1.n r2.n s1 s2⟩:=by
 have hspec:∀e j b,sub2 r1.n r2.n s1 s2 e j=some b->(e<r1.n∧s1 e j=some b)∨(r1.n<=e∧e-r1.n<r2.n∧s2 (e-r1.n) j=some b):=by
  intro e j b h;unfold sub2 at h;split at h
  ·exact .inl ⟨by assumption,h⟩
  ·split at h
   ·exact .inr ⟨by omega,by assumption,h⟩
   ·cases h
 have hne:∀e j b,sub2 r1.n r2.n s1 s2 e j=some b->b≠b':=fun e j b h=>by
  rcases hspec e j b h with⟨g1,g2⟩|⟨_,g1,g2⟩
  ·exact hsub e j b (.inl ⟨g1,g2⟩)
  ·exact hsub _ j b (.inr ⟨g1,g2⟩)
 have hOw:∀e j b,sub2 r1.n r2.n s1 s2 e j=some b->∃i,D i∧Owned mem ρ i b:=fun e j b h=>by
  rcases hspec e j b h with⟨g1,g2⟩|⟨_,g1,g2⟩
  ·exact⟨i1,hD1 ⟨e,j,b,g1,g2⟩,(o1 e j b g1 g2).1⟩
  ·exact⟨i2,hD2,(o2 _ j b g1 g2).1⟩
 have hdead:∀i,D i->∀c,mem1[i]? ≠some (some c):=fun i hi c hc=>(hk.old i c hc).2.1 hi;have hpos:∀b,(∀i,Owned mem ρ i b->∃c,(mem1++[some (.deep ks (r1.app r2) none)])[i]? =some (some c))->b<w.heap.size->0<tot->b≠b':=by
  intro b hb hlt ht he;subst he;rcases hown ht with h|⟨i,h1,h2⟩
  ·omega
  ·obtain⟨c,hc⟩:=hb i h2;have hil:i<mem.length:=by
    obtain⟨_,blk,_,g,_⟩:=h2;exact(A0.1 g).1
   rw[AQ (by rw[hk.len];exact hil)]at hc;exact hdead i h1 c hc
 refine hm.upd (q:=mem.length) (blk:=.deep ks (r1.app r2) none) (by simp[hk.len]) (by rw[List.getElem?_append_right (by rw[hk.len];exact AC _),hk.len];simp) (fun i b hi hb=>?_) (fun b hb=>?_) hw (fun b hb ho=>?_) (fun ρ'=>?_) (fun h=>absurd h (Nat.lt_irrefl _))
 ·rcases get_snoc hb with⟨g1,g2⟩|⟨g1,_⟩
  ·obtain⟨g3,g4,g5⟩:=hk.old i b g1;refine⟨g3,fun p e j ks' r' hbr=>?_⟩;have g6:=g5 p e j ks' r' hbr;subst hbr;obtain⟨L,_,hr⟩:=hm.blk i _ g3;obtain⟨_,_,_,_,_,Lp,kps,rp,hh,a,q1,_⟩:=hr;have hp:p<mem.length:=(A0.1 q1).1;refine⟨by omega,?_⟩;rw[AQ (by rw[hk.len];exact hp)];exact hk.kept p g6 fun _ _ _ _ _ h=>by rw[q1]at h;cases h
  ·rw[hk.len]at g1;exact absurd g1 hi
 ·rcases hb with⟨ht,rfl⟩|⟨e,j,hb⟩
  ·rcases hown ht with h|⟨i,h1,h2⟩
   ·exact .inl h
   ·refine .inr ⟨i,h2,.inr fun c hc=>?_⟩;have hil:i<mem.length:=by
     obtain⟨_,blk,_,g,_⟩:=h2;exact(A0.1 g).1
    rw[AQ (by rw[hk.len];exact hil)]at hc;exact hdead i h1 c hc
  ·obtain⟨i,h1,h2⟩:=hOw e j b hb;refine .inr ⟨i,h2,.inr fun c hc=>?_⟩;have hil:i<mem.length:=by
    obtain⟨_,blk,_,g,_⟩:=h2;exact(A0.1 g).1
   rw[AQ (by rw[hk.len];exact hil)]at hc;exact hdead i h1 c hc
 ·exact hsame b hb (hpos b (fun i hi=>(ho i hi).2) hb)
 ·have hsub':∀e j b,sub2 r1.n r2.n s1 s2 e j=some b->w'.heap[b]? =w.heap[b]? :=fun e j b h=>by
   obtain⟨i,_,h2⟩:=hOw e j b h;exact hsame b (own_lt hm h2) fun _=>hne e j b h
  refine⟨rfl,rfl,rfl,hn,hblk,fun e j k he hk'=>⟨_,hcell e j k he hk',?_⟩,fun e j b hb=>?_,fun hmany e j e' j' b hb hb'=>?_⟩
  ·by_cases hen:e<r1.n
   ·have:=(d1 e j k hen hk').app_l (s:=r2) hen;rw[AM hen];have es:sub2 r1.n r2.n s1 s2 e j=s1 e j:=by unfold sub2;rw[AM hen]
    show DCell B w' k (r1.app r2) e j false (sub2 r1.n r2.n s1 s2 e j) _;refine DCell.mono (fun b hb=>hsub' e j b hb) ?_;rw[es];exact this
   ·have he2:e-r1.n<r2.n:=by have:e<r1.n+r2.n:=he;omega
    have:=(d2 (e-r1.n) j k he2 hk').app_r (r:=r1) (by omega);rw[AL hen];have es:sub2 r1.n r2.n s1 s2 e j=s2 (e-r1.n) j:=by unfold sub2;rw[AL hen,AM he2]
    show DCell B w' k (r1.app r2) e j false (sub2 r1.n r2.n s1 s2 e j) _;refine DCell.mono (fun b hb=>hsub' e j b hb) ?_;rw[es];exact this
  ·refine⟨?_,?_,rfl,hne e j b hb⟩
   ·show e<r1.n+r2.n;rcases hspec e j b hb with⟨g1,_⟩|⟨_,g1,_⟩<;>omega
   ·rcases hspec e j b hb with⟨g1,g2⟩|⟨_,g1,g2⟩
    ·exact(o1 e j b g1 g2).2
    ·exact(o2 _ j b g1 g2).2
  ·rcases hspec e j b hb with⟨g1,g2⟩|⟨g0,g1,g2⟩<;>rcases hspec e' j' b hb' with⟨k1,k2⟩|⟨k0,k1,k2⟩
   ·exact j1 hmany e j e' j' b g2 k2
   ·exact absurd (hm.inj _ _ b (o1 e j b g1 g2).1 (o2 _ j' b k1 k2).1) h12
   ·exact absurd (hm.inj _ _ b (o1 e' j' b k1 k2).1 (o2 _ j b g1 g2).1) h12
   ·have:=j2 hmany _ _ _ _ b g2 k2;exact⟨by omega,this.2⟩
theorem deep_vals{L:Loc}{ks:List CK}{r:Row}{h:Option (Nat×Nat)}(hr:BlkR mem ρ w B L (.deep ks r h)):
  ∃v:Nat->Nat->Value,∀e j k,e<r.n->ks[j]? =some k->w.cell? ⟨L.b,L.off+e*ks.length+j,none⟩=some (v e j)∧DCell B w k r e j (isHole h e j) (L.sub e j) (v e j):=by
 obtain⟨h1,h2,h3,h4,h5,h6,h7,h8⟩:=hr;have key:∀e j,∃v,∀k,e<r.n->ks[j]? =some k->w.cell? ⟨L.b,L.off+e*ks.length+j,none⟩=some v∧DCell B w k r e j (isHole h e j) (L.sub e j) v:=by
  intro e j;by_cases he:e<r.n
  ·cases hk:ks[j]? with
   |none=>exact⟨undef,fun k _ h=>by cases h⟩
   |some k=>
    obtain⟨v,g1,g2⟩:=h6 e j k he hk;exact⟨v,fun k' _ h=>by cases h;exact⟨g1,g2⟩⟩
  ·exact⟨undef,fun k h _=>absurd h he⟩
 exact⟨fun e j=>Classical.choose (key e j),fun e j k he hk=>Classical.choose_spec (key e j) k he hk⟩
theorem deep_cells{b off n:Nat}{ks:List CK}{r:Row}{v:Nat->Nat->Value}{s:Nat->Nat->Option Nat}{hl:Nat->Nat->Bool}(hn:n<=r.n)(hv:∀e j k,e<r.n->ks[j]? =some k->w.cell? ⟨b,off+e*ks.length+j,none⟩=some (v e j)∧DCell B w k r e j (hl e j) (s e j) (v e j)):
  (∀i u,(rowCells ks.length n v)[i]? =some u->w.cell? ⟨b,off+i,none⟩=some u)∧∀u∈rowCells ks.length n v,u.oneCell'=true:=by
 have key:∀i u,(rowCells ks.length n v)[i]? =some u->∃e j k,e<r.n∧ks[j]? =some k∧i=e*ks.length+j∧u=v e j:=by
  intro i u hu;have hi:i<n*ks.length:=by
   have:=(A0.1 hu).1;rw[rowCells_length]at this;exact this
  have hpos:0<ks.length:=by
   rcases Nat.eq_zero_or_pos ks.length with h0|h0
   ·rw[h0]at hi;omega
   ·exact h0
  have hj:i%ks.length<ks.length:=Nat.mod_lt _ hpos;have he:i/ks.length<n:=(Nat.div_lt_iff_lt_mul hpos).2 hi;have hsum:i/ks.length*ks.length+i%ks.length=i:=by have:=Nat.div_add_mod i ks.length;rw[Nat.mul_comm];exact this
  have hg:=rowCells_get (v:=v) he hj;rw[hsum,hu]at hg;exact⟨_,_,ks[i%ks.length],by omega,AK hj,hsum.symm,Option.some.inj hg⟩
 constructor
 ·intro i u hu;obtain⟨e,j,k,h1,h2,h3,rfl⟩:=key i u hu;rw[h3,<-Nat.add_assoc];exact(hv e j k h1 h2).1
 ·intro u hu;obtain⟨i,hi⟩:=List.getElem?_of_mem hu;obtain⟨e,j,k,h1,h2,_,rfl⟩:=key i u hi;exact(hv e j k h1 h2).2.one
theorem appDeep_sound(hm:MemR mem ρ B w)(hB:B<=w.heap.size){st xt ty el:TypeId}{ei:TypeInfo}{z:Value}(ht:P.underlying st=some (.slice el))(hi:P.info? el=some ei)(hz:ei.zero=some z){ks:List CK}(hsz:ei.size=ks.length)
  (hzo:zeroOk ks (lcells z)=true) (hbytes:ei.bytes<=1000) {s x cs cx:Value} {r:Row} {n:Nat} (hd:appDeep mem ks s x=some (mem1,r,n)) (hxt:srcOk P xt x=true) (hbound:n<=10000000000)
  (hs:V ρ mem.length s cs) (hx:V ρ mem.length x cx):
  ∃ρ' cv w',(Builtin.append_ #[st,xt] ty #[cs,cx]).run P w=.ok cv w'∧MemR (mem1++[some (.deep ks r none)]) ρ' B w'∧mem1.length=mem.length∧(∀i,i<mem.length->Less ρ ρ' i)∧
   V ρ' (mem.length+1) (sl0 n mem.length) cv∧∀W0:World,W0.heap.size=B->W0.heap.size<=w.heap.size->Below W0.heap.size W0 w->Below W0.heap.size W0 w':=by
 obtain⟨z1,z2⟩:=zeroOk_spec hzo;have hzs:z.cells.size=ks.length:=by rw[<-z1,<-cells_lcells];simp
 unfold appDeep at hd;split at hd
 case h_2=>cases hd
 rename_i id2 n2;obtain⟨el2,hu2⟩:∃el2,P.underlying xt=some (.slice el2):=by
  unfold srcOk at hxt;split at hxt
  ·rename_i el _ _ _ h1 _;exact⟨el,h1⟩
  ·rename_i h2;cases h2
  ·cases hxt
 split at hd
 case h_2=>cases hd
 rename_i ksX r2 hb2;obtain⟨L2,hL2,hr2⟩:=hm.blk _ _ hb2;cases hx with
 |sliceDead g1 g2=>exact absurd g2 (live_of hm hb2)
 |@slice _ _ _ L2' a2 cap2 g1 g2 g3 g4 g5 g6=>
 rw[hL2]at g2;cases g2;have hr2':=hr2;obtain⟨p1,p2,p3,p4,p5,p6,p7,p8⟩:=hr2';obtain⟨v2,hv2⟩:=deep_vals hr2;have hn2:n2<=r2.n:=by omega
 have hsrc:∀(hk:ksX=ks),Src P ks.length xt (.slice a2 n2 cap2) n2 (rowCells ks.length n2 v2) w:=by
  intro hk;subst hk;obtain⟨c1,c2⟩:=deep_cells (n:=n2) hn2 hv2;rcases Nat.eq_zero_or_pos n2 with h0|h0
  ·subst h0;have hnil:rowCells ksX.length 0 v2=[]:=by simp[rowCells]
   rw[hnil];cases a2 with
   |none=>exact Src.ofNil (P:=P) w hu2 cap2
   |some a=>exact Src.ofSlice (P:=P) w hu2 a 0 cap2 [] (by simp) (fun j u hu=>by simp at hu) (fun u hu=>by simp at hu)
  ·rw[g5 h0];refine Src.ofSlice (P:=P) w hu2 _ n2 cap2 _ rowCells_length (fun j u hu=>?_) c2;have:=c1 j u hu;simp only[Loc.adr,Addr.add_lit];simpa using this
 have hO2:∀e j b,e<n2->L2.sub e j=some b->Owned mem ρ id2 b∧∃s,ksX[j]? =some (.slice s):=fun e j b _ hb=>⟨⟨L2,_,hL2,hb2,rfl,.inr ⟨e,j,hb⟩⟩,(p7 e j b hb).2.1⟩;have hwin:∀(r:Row)(n:Nat) e j,SameC r (winOf r 0 n) e j:=fun r n e j=>⟨rfl,rfl,rfl,rfl⟩;have hd2:∀e j k,e<n2->ksX[j]? =some k->DCell B w k (winOf r2 0 n2) e j false (L2.sub e j) (v2 e j):=fun e j k he hk=>(hwin r2 n2 e j).dcell (hv2 e j k (by omega) hk).2;have grown:∀(r1:Row)(v1:Nat->Nat->Value)(cap tot e j:Nat)(k:CK),r1.n+n2<=tot->e<r1.n+n2->ksX[j]? =some k->
   ((rowCells ksX.length r1.n v1++rowCells ksX.length n2 v2).toArray++Builtin.zeroCells z.cells (tot-(r1.n+n2)))[e*ksX.length+j]? =some (if e<r1.n then v1 e j else v2 (e-r1.n) j):=by
  intro r1 v1 _ tot e j k htot he hk;have hj:j<ksX.length:=(A0.1 hk).1;have hlt:e*ksX.length+j<(r1.n+n2)*ksX.length:=by
   have:(e+1)*ksX.length<=(r1.n+n2)*ksX.length:=AH _ (by omega);rw[Nat.add_mul,Nat.one_mul]at this;omega
  rw[Array.getElem?_append,AM (by simp only[List.size_toArray,AG,rowCells_length];rw[<-Nat.add_mul];exact hlt)];simp only[List.getElem?_toArray];by_cases hen:e<r1.n
  ·have hl1:e*ksX.length+j<r1.n*ksX.length:=by
    have:(e+1)*ksX.length<=r1.n*ksX.length:=AH _ (by omega);rw[Nat.add_mul,Nat.one_mul]at this;omega
   rw[AM hen,AQ (by rw[rowCells_length];exact hl1)];exact rowCells_get hen hj
  ·have hge2:r1.n*ksX.length<=e*ksX.length:=AH _ (by omega);rw[AL hen,List.getElem?_append_right (by rw[rowCells_length];omega),rowCells_length];rw[show e*ksX.length+j-r1.n*ksX.length=(e-r1.n)*ksX.length+j by rw[Nat.sub_mul];omega];exact rowCells_get (by omega) hj
 have hsizes:∀(n:Nat)(v1:Nat->Nat->Value)(tot:Nat),n+n2<=tot->z.cells.size=ksX.length->tot*ksX.length<=((rowCells ksX.length n v1++rowCells ksX.length n2 v2).toArray++Builtin.zeroCells z.cells (tot-(n+n2))).size:=by
  intro n v1 tot h hzs;simp only[Array.size_append,List.size_toArray,AG,rowCells_length,Builtin.zeroCells,Array.size_map,Array.size_range,hzs];rw[Nat.sub_mul,<-Nat.add_mul];have:(n+n2)*ksX.length<=tot*ksX.length:=AH _ h;omega
 have hnewc:∀(c:Array Value)(T:TypeId)(i:Nat),(w.drew.alloc (.cells c T)).cell? ⟨w.heap.size,0+i,none⟩=c[i]? :=by
  intro c T i;have hg:(w.drew.alloc (.cells c T)).heap[w.heap.size]? =some (.cells c T (0,0)):=by
   show(w.heap.push _)[w.heap.size]? =_;simp
  simp only[World.cell?,hg,Option.isSome_none,Bool.false_eq_true,if_false,AE]
 have hnewh:∀(c:Array Value)(T:TypeId),(w.drew.alloc (.cells c T)).heap[w.heap.size]? =some (.cells c T (0,0)):=by
  intro c T;show(w.heap.push _)[w.heap.size]? =_;simp
 have hnewo:∀(c:Array Value)(T:TypeId)(b:Nat),b<w.heap.size->(w.drew.alloc (.cells c T)).heap[b]? =w.heap[b]? :=fun c T b hb=>by
  show(w.heap.push _)[b]? =_;rw[Array.getElem?_push,AL (by omega)]
 have hnews:∀(c:Array Value)(T:TypeId),w.heap.size<=(w.drew.alloc (.cells c T)).heap.size:=fun c T=>by
  show _<=(w.heap.push _).size;simp
 split at hd
 ·
  rename_i hkk;cases cksEq_eq hkk;cases hd;cases hs;rename_i a0;have hK:=(Killed.refl mem).step id2;rcases Nat.eq_zero_or_pos n2 with h0|h0
  ·subst h0;have hrun:=run_append_nothing (P:=P) w st xt ty el ei ht hi a0 0 0 (AC _) (.slice a2 0 cap2) (by
    rw[hsz];have:rowCells ks.length 0 v2=[]:=by simp[rowCells]
    rw[<-this];exact hsrc rfl)
   obtain⟨ρ',m1,m2,m3⟩:=deep_join (w':=w) hm hK (ks:=ks) (r1:=.nil) (r2:=winOf r2 0 0) (v1:=fun _ _=>undef) (v2:=v2) (s1:=s0) (s2:=L2.sub) (i1:=id2+1) (i2:=id2) (by omega) (fun⟨_,_,_,_,h⟩=>by cases h) (.inl rfl) (fun e j k he=>by simp[Row.n]at he) (fun e j k he=>by rw[winOf_n]at he;omega) (fun e j b _ h=>by cases h) (fun e j b he=>by rw[winOf_n]at he;omega)
    (fun _ e j e' j' b h=>by cases h) p8 (b':=0) (off':=0) (tot:=0) (AC _) (fun h=>by omega) (fun h=>by omega) (fun e j b h=>by
     rcases h with⟨_,h⟩|⟨h,_⟩
     ·cases h
     ·rw[winOf_n]at h;omega) (fun b _ _=>rfl) (fun e j k he=>by rw[winOf_n]at he;simp[Row.n]at he) (by rw[winOf_n];simp[Row.n])
   refine⟨ρ',_,w,hrun,m1,hK.len,m2,?_,fun W0 _ _ h=>h⟩;exact .slice (by omega) m3 (by simp) (AC _) (fun h=>by omega) (fun _=>⟨by simp,.inl rfl⟩)
  ·have hrun:=run_append_grow_src (P:=P) w st xt ty el ei z ht hi hz a0 0 0 [] (by
    cases a0 with
    |none=>exact run_firstCells_none _ _ _ _ _
    |some a=>exact run_firstCells_some _ _ 0 _ _ _ [] (by simp) (fun j v hv=>by simp at hv)) (.slice a2 n2 cap2) n2 _ (by rw[hsz];exact hsrc rfl) (by omega) (by omega) (by
    have hcap:=nextslicecap_le (need:=0+n2) (old:=0) (by omega);have:Builtin.nextslicecap (0+n2) 0*ei.bytes<=(2*(0+n2))*1000:=Nat.mul_le_mul hcap hbytes;omega)
   have hge:=grownCap_ge w (0+n2) 0 el;have hnil:rowCells ks.length 0 (fun _ _=>undef)=[]:=by simp[rowCells]
   have hg1:=grown .nil (fun _ _=>undef) 0 (grownCap w (0+n2) 0 el);have hg2:=hsizes 0 (fun _ _=>undef) (grownCap w (0+n2) 0 el) hge hzs;rw[hnil,List.nil_append]at hg2;have e0:(Row.nil).n=0:=rfl;rw[e0,hnil,List.nil_append]at hg1;rw[List.nil_append]at hrun;obtain⟨ρ',m1,m2,m3⟩:=deep_join (w':=w.drew.alloc (.cells ((rowCells ks.length n2 v2).toArray++Builtin.zeroCells z.cells (grownCap w (0+n2) 0 el-(0+n2))) el)) hm hK (ks:=ks) (r1:=.nil) (r2:=winOf r2 0 n2) (v1:=fun _ _=>undef) (v2:=v2) (s1:=s0) (s2:=L2.sub) (i1:=id2+1) (i2:=id2) (by omega)
    (fun⟨_,_,_,_,h⟩=>by cases h) (.inl rfl) (fun e j k he=>by simp[Row.n]at he) (fun e j k he=>hd2 e j k (by rw[winOf_n]at he;exact he)) (fun e j b _ h=>by cases h) (fun e j b he=>hO2 e j b (by rw[winOf_n]at he;exact he))
    (fun _ e j e' j' b h=>by cases h) p8 (b':=w.heap.size) (off':=0) (tot:=grownCap w (0+n2) 0 el) (hnews _ _) (fun _=>⟨hB,_,_,hnewh _ _,by simpa using hg2⟩) (fun _=>.inl (AC _)) (fun e j b h=>by
     rcases h with⟨_,h⟩|⟨h1,h⟩
     ·cases h
     ·have:=own_lt hm (hO2 e j b (by rw[winOf_n]at h1;exact h1) h).1;omega) (fun b hb _=>hnewo _ _ b hb) (fun e j k he hk=>by
     rw[Nat.add_assoc,hnewc];rw[winOf_n]at he;exact hg1 e j k hge he hk) (by rw[winOf_n];exact hge)
   refine⟨ρ',_,_,hrun,m1,hK.len,m2,?_,fun W0 _ hW hb=>(hb.drew).alloc (by simpa using hW) _⟩;rw[winOf_n]at m3;exact .slice (by omega) m3 (by simp[Row.n]) hge (fun _=>by simp[Loc.adr]) (fun _=>⟨by simp,.inr (by simp[Loc.adr])⟩)
 ·
  rename_i id n1 hkk;cases cksEq_eq hkk;split at hd
  case h_2=>cases hd
  rename_i ksY r1 hb1;split at hd
  case h_2=>cases hd
  rename_i hne;rw[A2]at hne;cases cksEq_eq hne.1;have hnid:id≠id2:=fun h=>by rw[h]at hne;simp at hne
  cases hd;obtain⟨L1,hL1,hr1⟩:=hm.blk _ _ hb1;cases hs with
  |sliceDead q1 q2=>exact absurd q2 (live_of hm hb1)
  |@slice _ _ _ L1' a cap q1 q2 q3 q4 q5 q6=>
  rw[hL1]at q2;cases q2;have hr1':=hr1;obtain⟨u1,u2,u3,u4,u5,u6,u7,u8⟩:=hr1';obtain⟨v1,hv1⟩:=deep_vals hr1;obtain⟨q7,q8⟩:=q6 u3;have hn1:n1<=r1.n:=by omega
  have hK:=((Killed.refl mem).step id2).step id;have hO1:∀e j b,e<n1->L1.sub e j=some b->Owned mem ρ id b∧∃s,ks[j]? =some (.slice s):=fun e j b _ hb=>⟨⟨L1,_,hL1,hb1,rfl,.inr ⟨e,j,hb⟩⟩,(u7 e j b hb).2.1⟩;have hd1:∀e j k,e<n1->ks[j]? =some k->DCell B w k (winOf r1 0 n1) e j false (L1.sub e j) (v1 e j):=fun e j k he hk=>(hwin r1 n1 e j).dcell (hv1 e j k (by omega) hk).2;obtain⟨c1,c2⟩:=deep_cells (n:=n1) hn1 hv1;have hsubne:∀e j b,(e<(winOf r1 0 n1).n∧L1.sub e j=some b)∨(e<(winOf r2 0 n2).n∧L2.sub e j=some b)->0<L1.tot->b≠L1.b:=by
   intro e j b h ht;rcases h with⟨_,h⟩|⟨h1,h⟩
   ·exact(u7 e j b h).2.2.2
   ·intro he;rw[winOf_n]at h1;have h2:=(hO2 e j b h1 h).1;exact hnid (hm.inj id id2 b (he▸⟨L1,_,hL1,hb1,rfl,.inl ⟨ht,rfl⟩⟩) h2)
  by_cases hfit:n1+n2<=cap
  ·have htot:n1+n2<=L1.tot:=by omega
   have core:∀w':World,w'.heap.size=w.heap.size->(∀b,(0<L1.tot->b≠L1.b)->w'.heap[b]? =w.heap[b]?)->(0<L1.tot->∃(c:Array Value)(T:TypeId),w'.heap[L1.b]? =some (.cells c T (0,0))∧L1.off+L1.tot*ks.length<=c.size)->
     (∀e j k,e<n1+n2->ks[j]? =some k->w'.cell? ⟨L1.b,L1.off+e*ks.length+j,none⟩=some (if e<n1 then v1 e j else v2 (e-n1) j))->
     ∃ρ',MemR (killM id (killM id2 mem)++[some (.deep ks ((winOf r1 0 n1).app (winOf r2 0 n2)) none)]) ρ' B w'∧(∀i,i<mem.length->Less ρ ρ' i)∧V ρ' (mem.length+1) (sl0 (n1+n2) mem.length) (.slice a (n1+n2) cap):=by
    intro w' k1 k2 k3 k4;obtain⟨ρ',m1,m2,m3⟩:=deep_join (w':=w') hm hK (ks:=ks) (r1:=winOf r1 0 n1) (r2:=winOf r2 0 n2) (v1:=v1) (v2:=v2) (s1:=L1.sub) (s2:=L2.sub) (i1:=id) (i2:=id2) hnid (fun _=>.inl rfl) (.inr (.inl rfl))
     (fun e j k he=>hd1 e j k (by rw[winOf_n]at he;exact he)) (fun e j k he=>hd2 e j k (by rw[winOf_n]at he;exact he)) (fun e j b he=>hO1 e j b (by rw[winOf_n]at he;exact he)) (fun e j b he=>hO2 e j b (by rw[winOf_n]at he;exact he))
     u8 p8 (b':=L1.b) (off':=L1.off) (tot:=L1.tot) (by omega) (fun ht=>⟨(u5 ht).1,k3 ht⟩) (fun ht=>.inr ⟨id,.inl rfl,L1,_,hL1,hb1,rfl,.inl ⟨ht,rfl⟩⟩) (fun e j b h=>hsubne e j b h (by
      rcases h with⟨h,_⟩|⟨h,_⟩<;>rw[winOf_n]at h<;>omega)) (fun b _ h=>k2 b h) (fun e j k he hk=>by
      rw[winOf_n,winOf_n]at he;rw[winOf_n];exact k4 e j k he hk) (by rw[winOf_n,winOf_n];exact htot)
    rw[winOf_n,winOf_n]at m3;refine⟨ρ',m1,m2,.slice (by omega) m3 (by simp) hfit (fun hp=>?_) (fun _=>⟨by simp;omega,?_⟩)⟩
    ·rcases q8 with q8|q8
     ·omega
     ·rw[q8];simp[Loc.adr]
    ·rcases q8 with q8|q8
     ·exact .inl q8
     ·right;rw[q8];simp[Loc.adr]
   rcases Nat.eq_zero_or_pos n2 with h0|h0
   ·subst h0;have hrun:=run_append_nothing (P:=P) w st xt ty el ei ht hi a n1 cap (by omega) (.slice a2 0 cap2) (by
     rw[hsz];have:rowCells ks.length 0 v2=[]:=by simp[rowCells]
     rw[<-this];exact hsrc rfl)
    obtain⟨ρ',m1,m2,m3⟩:=core w rfl (fun _ _=>rfl) (fun ht=>by
     obtain⟨_,c,T,h1,h2⟩:=u5 ht;exact⟨c,T,h1,by rw[<-u2];exact h2⟩) (fun e j k he hk=>by
     rw[AM (by omega)];exact(hv1 e j k (by omega) hk).1)
    exact⟨ρ',_,w,hrun,m1,hK.len,m2,m3,fun W0 _ _ h=>h⟩
   ·have ha:a=some (L1.adr 0 0):=by
     rcases q8 with q8|q8
     ·omega
     ·exact q8
    obtain⟨b8,c,T,b9,b10⟩:=u5 (by omega);rw[u2]at b10;have hcapn:n1*ks.length+n2*ks.length<=L1.tot*ks.length:=by rw[<-Nat.add_mul];exact AH _ htot
    have hin:L1.off+n1*ks.length+(rowCells ks.length n2 v2).length<=c.size:=by rw[rowCells_length];omega
    have hrun:=run_append_room_src (P:=P) w st xt ty el ei ht hi L1.b L1.off n1 cap (.slice a2 n2 cap2) n2 _ (by rw[hsz];exact hsrc rfl) hfit (fun j hj=>by
      rw[hsz];simp[World.cell?,b9];omega) (fun j hj=>by simp[World.frozen?,b9])
    rw[hsz]at hrun;obtain⟨c',t1,t2,t3,t4,t5⟩:=setCells_block (rowCells ks.length n2 v2) (L1.off+n1*ks.length) w c b9 hin;obtain⟨ρ',m1,m2,m3⟩:=core _ t5 (fun b hb=>t4 b (hb (by omega))) (fun _=>⟨c',T,t1,by omega⟩) (fun e j k he hk=>by
     have hj:j<ks.length:=(A0.1 hk).1;simp only[World.cell?,t1,Option.isSome_none,Bool.false_eq_true,if_false,t3];by_cases hen:e<n1
     ·have hlt:e*ks.length+j<n1*ks.length:=by
       have:(e+1)*ks.length<=n1*ks.length:=AH _ (by omega);rw[Nat.add_mul,Nat.one_mul]at this;omega
      rw[AL (by omega),AM hen];have:=(hv1 e j k (by omega) hk).1;simpa [World.cell?,b9]using this
     ·have hge2:n1*ks.length<=e*ks.length:=AH _ (by omega);have hlt:e*ks.length+j<(n1+n2)*ks.length:=by
       have:(e+1)*ks.length<=(n1+n2)*ks.length:=AH _ (by omega);rw[Nat.add_mul,Nat.one_mul]at this;omega
      rw[Nat.add_mul]at hlt;rw[AM (by rw[rowCells_length];omega),AL hen];rw[show L1.off+e*ks.length+j-(L1.off+n1*ks.length)=(e-n1)*ks.length+j by rw[Nat.sub_mul];omega];exact rowCells_get (by omega) hj)
    rw[ha]at m3;refine⟨ρ',_,_,?_,m1,hK.len,m2,m3,fun W0 hW _ h=>below_setCells h (by rw[hW];exact b8)⟩;rw[ha];simpa [Loc.adr]using hrun
  ·have hold:(Builtin.firstCells ei.size n1 (.slice a n1 cap)).run P w.drew=.ok (rowCells ks.length n1 v1).toArray w.drew:=by
    rw[hsz];rcases Nat.eq_zero_or_pos n1 with h0|h0
    ·subst h0;have:rowCells ks.length 0 v1=[]:=by simp[rowCells]
     rw[this];cases a with
     |none=>exact run_firstCells_none _ _ _ _ _
     |some a=>exact run_firstCells_some _ _ 0 _ _ _ [] (by simp) (fun j v hv=>by simp at hv)
    ·rw[q5 h0];refine run_firstCells_some w.drew _ n1 _ _ _ _ rowCells_length (fun j v hv=>?_);have:=c1 j v hv;simp only[Loc.adr,Addr.add_lit];simpa using this
   have hrun:=run_append_grow_src (P:=P) w st xt ty el ei z ht hi hz a n1 cap _ hold (.slice a2 n2 cap2) n2 _ (by rw[hsz];exact hsrc rfl) (by omega) (by omega) (by
    have hcap:=nextslicecap_le (need:=n1+n2) (old:=cap) (by omega);have:Builtin.nextslicecap (n1+n2) cap*ei.bytes<=(2*(n1+n2))*1000:=Nat.mul_le_mul hcap hbytes;omega)
   have hge:=grownCap_ge w (n1+n2) cap el;have hg1:=grown (winOf r1 0 n1) v1 0 (grownCap w (n1+n2) cap el);have hg2:=hsizes n1 v1 (grownCap w (n1+n2) cap el) hge hzs;rw[winOf_n]at hg1;obtain⟨ρ',m1,m2,m3⟩:=deep_join (w':=w.drew.alloc (.cells ((rowCells ks.length n1 v1++rowCells ks.length n2 v2).toArray++Builtin.zeroCells z.cells (grownCap w (n1+n2) cap el-(n1+n2))) el)) hm hK (ks:=ks) (r1:=winOf r1 0 n1) (r2:=winOf r2 0 n2) (v1:=v1) (v2:=v2) (s1:=L1.sub) (s2:=L2.sub) (i1:=id) (i2:=id2) hnid
    (fun _=>.inl rfl) (.inr (.inl rfl)) (fun e j k he=>hd1 e j k (by rw[winOf_n]at he;exact he)) (fun e j k he=>hd2 e j k (by rw[winOf_n]at he;exact he)) (fun e j b he=>hO1 e j b (by rw[winOf_n]at he;exact he)) (fun e j b he=>hO2 e j b (by rw[winOf_n]at he;exact he))
    u8 p8 (b':=w.heap.size) (off':=0) (tot:=grownCap w (n1+n2) cap el) (hnews _ _) (fun _=>⟨hB,_,_,hnewh _ _,by simpa using hg2⟩) (fun _=>.inl (AC _)) (fun e j b h=>by
     rcases h with⟨h1,h⟩|⟨h1,h⟩<;>rw[winOf_n]at h1
     ·have:=own_lt hm (hO1 e j b h1 h).1;omega
     ·have:=own_lt hm (hO2 e j b h1 h).1;omega) (fun b hb _=>hnewo _ _ b hb) (fun e j k he hk=>by
     rw[Nat.add_assoc,hnewc];rw[winOf_n,winOf_n]at he;rw[winOf_n];exact hg1 e j k hge he hk) (by rw[winOf_n,winOf_n];exact hge)
   refine⟨ρ',_,_,hrun,m1,hK.len,m2,?_,fun W0 _ hW hb=>(hb.drew).alloc (by simpa using hW) _⟩;rw[winOf_n,winOf_n]at m3;exact .slice (by omega) m3 (by simp) hge (fun _=>by simp[Loc.adr]) (fun _=>⟨by simp,.inr (by simp[Loc.adr])⟩)
 ·cases hd
end
def plainV:Value->Bool
 |.agg cs=>cs.toList.all atom1
 |v=>atom1 v
def IAt(P:Program)(wb:World)(g:FuncId)(F:List Value->St->Option (Bool×Value×St)):Prop:=∀w0,Below wb.heap.size wb w0->∀(args:List Value)(σ:St)(v:Value)(σ1:St),F args σ=some (true,v,σ1)->∀(a:Act)(cs:List (Array Value))(w:World)(ρ:Map)(cargs:List Value),Rel w0 σ a cs w ρ->Vs ρ σ.mem.length args cargs->Calls P g ⟨cargs⟩ w fun e w'=>∃cv ρ1,e=.returned cv∧Rel w0 σ1 a cs w' ρ1∧V ρ1 σ1.mem.length v cv
theorem IAt.later{P:Program}{wb w:World}{g:FuncId}{F:List Value->St->Option (Bool×Value×St)}(h:IAt P wb g F)(hb:Below wb.heap.size wb w):IAt P w g F:=fun w0 hw=>h w0 (hb.trans (hw.mono hb.size))
structure CxAt(C:Cx)(wb:World):Prop where
 enter:∀(g:FuncId),C.ok.contains g=true->∀(args:Array Value)(w:World),(callFunc g args).run C.P w=.ok (.enter g args) w
 den:∀(g:FuncId)(F:FD),C.Γ g=some F->DenAt C.P wb g F
 mixed:C.P.follows .mixedOrders=true
 ext:∀(g:FuncId)(f:List Value->Option (Bool×List Value)),C.X g=some f->∀(args vs:List Value),f args=some (true,vs)->(∀v∈args,plainV v=true)∧(∀v∈vs,plainV v=true)∧∀w:World,(callFunc g ⟨args⟩).run C.P w=.ok (.value (tupV vs)) w
 inpl:∀(g:FuncId)(F:List Value->St->Option (Bool×Value×St)),C.I g=some F->IAt C.P wb g F
 loop:∀(f:FuncId)(b:Code),b∈loopsOf C.P f->∀L,C.Λ f (firstRegion b)=some L->∀(d:Nat)(σ:St)(k:X->St->OD)(r:List D),L σ k=some r->
  rounds (C.lv f (firstRegion b)) (C.lx f (firstRegion b)) (evCode C f true (inl C (d+4)) b) C.N σ k=some r
def CxW(C:Cx)(W:World->Prop):Prop:=∀wb,W wb->CxAt C wb
def CxOk(C:Cx):Prop:=∀wb,CxAt C wb
theorem CxAt.later{C:Cx}{wb w:World}(h:CxAt C wb)(hb:Below wb.heap.size wb w):CxAt C w:=⟨h.enter,fun g F hF=>(h.den g F hF).later hb,h.mixed,h.ext,fun g F hF=>(h.inpl g F hF).later hb,h.loop⟩
section
variable{P:Program}{mem mem':List (Option Blk)}{ρ ρ':Map}{B:Nat}{w w':World}
theorem Rel.mono{w0:World}{σ:St}{a:Act}{cs:List (Array Value)}{w1:World}{ρ1:Map}{mem1:List (Option Blk)}(h:Rel w0 σ a cs w ρ)(hb:Below w0.heap.size w0 w1)(hm:MemR mem1 ρ1 w0.heap.size w1)(hN:σ.mem.length<=mem1.length)(hρ:∀id,id<σ.mem.length->Less ρ ρ1 id):
  Rel w0 {σ with mem:=mem1} a cs w1 ρ1:=⟨h.defers,h.tmps.mono hN hρ,h.saved.mono hN hρ,hb,hm⟩
theorem pure_wp{α:Type}{w0:World}{σ:St}{a:Act}{cs:List (Array Value)}(hR:Rel w0 σ a cs w ρ){o:Oper}{k:Value->Option α}{r:α}(h:evPure P σ.mem (env σ.τ) o k=some r){K:Act->World->Prop}{Q:Exit->Act->World->Prop}
  (hK:∀v cv,k v=some r->Rel w0 (σ.put o.dst v) (a.put o.dst cv) cs w ρ->K (a.put o.dst cv) w):o.wp P a w K Q:=by
 obtain⟨v,cv,h1,h2,h3⟩:=evPure_sound hR.mem (fun x=>hR.tmps.env x) h;unfold Oper.wp;rw[h3 w (Below.refl _ _)];exact hK v cv h1 (hR.put _ h2)
theorem evBuild_sound{α:Type}{N:Nat}{ea:Operand->Value}{a:Act}(hE:∀x,V ρ N (ea x) (a.eval x)){o:Oper}{t:TypeId}{parts:Array (Nat×Operand)}(ho:o.op=.build t parts){k:Value->Option α}{r:α}(h:evBuild P ea t parts k=some r):
  ∃v cv,k v=some r∧V ρ N v cv∧∀w':World,(execOp a.eval o).run P w'=.ok (.value cv) w':=by
 have hparts:∀(i:Nat)(p q:Nat×Value),(parts.toList.map fun p=>(p.1,ea p.2))[i]? =some p->((parts.map fun(i,x)=>(i,a.eval x)).toList)[i]? =some q->p.1=q.1∧V ρ N p.2 q.2:=by
  intro i p q hp hq;simp only[Array.toList_map,List.getElem?_map,Option.map_eq_some_iff]at hp hq;obtain⟨x,hx,rfl⟩:=hp;obtain⟨y,hy,rfl⟩:=hq;rw[hx]at hy;cases hy;exact⟨rfl,hE _⟩
 have hlen:(parts.toList.map fun p=>(p.1,ea p.2)).length=((parts.map fun(i,x)=>(i,a.eval x)).toList).length:=by simp
 have hzc:∀z:Value,atom z=true->∀(i:Nat)(x y:Value),z.cells[i]? =some x->z.cells[i]? =some y->V ρ N x y:=by
  intro z hz i x y hx hy;have hv:=V.atom (ρ:=ρ) (N:=N) hz;have hu:isUnk z=false:=by cases z<;>first|rfl|simp[atom]at hz
  have h2:=(hv.cells hu).2;exact h2 i x y (by rw[<-cells_lcells];simpa using hx) hy
 unfold evBuild at h;split at h
 ·rename_i z hz hall;split at h
  ·rename_i cells hat hbt;obtain⟨it,hi,hiz⟩:=Option.bind_eq_some_iff.1 hz;have hpq:∀(i:Nat)(p q:Nat×Value),(parts.toList.map fun p=>(p.1,ea p.2))[i]? =some p->((parts.map fun(i,x)=>(i,a.eval x)).toList)[i]? =some q->p.1=q.1∧isUnk p.2=false∧V ρ N p.2 q.2:=fun i p q hp hq=>⟨(hparts i p q hp hq).1,by
     have:=List.all_eq_true.1 hall p (List.mem_of_getElem? hp);simpa using this,(hparts i p q hp hq).2⟩
   have key:∀place,Instr.fill place z.cells (parts.toList.map fun p=>(p.1,ea p.2))=some cells->∃out',Instr.fill place z.cells ((parts.map fun(i,x)=>(i,a.eval x)).toList)=some out'∧V ρ N (.agg cells) (.agg out'):=by
    intro place hfill;obtain⟨out',o1,o2,o3,o4⟩:=fill_V (ρ:=ρ) (N:=N) _ ((parts.map fun(i,x)=>(i,a.eval x)).toList) z.cells z.cells cells hfill hlen hpq rfl (hzc z hat);exact⟨out',o1,.agg o2 o4⟩
   have:∃out',P.built t ((parts.map fun(i,x)=>(i,a.eval x)).toList)=some out'∧V ρ N (.agg cells) (.agg out'):=by
    unfold Program.built at hbt⊢;rw[hi]at hbt⊢;split at hbt
    ·rename_i n el h1 hu;cases h1;rw[hiz]at hbt⊢;split at hbt
     ·rename_i z' s hz' hs;cases hz'
      first|exact key _ hbt|(rw[hs];exact key _ hbt)
     ·cases hbt
    ·rename_i fs h1 hu;cases h1;rw[hiz]at hbt⊢;split at hbt
     ·rename_i z' s hz' hs;cases hz'
      first|exact key _ hbt|(rw[hs];exact key _ hbt)
     ·cases hbt
    ·cases hbt
   obtain⟨out',o1,o2⟩:=this;refine⟨.agg cells,.agg out',h,o2,fun w'=>?_⟩;have:=run_build (P:=P) w' t _ out' o1;simp only[execOp,ho,Sem.run_bind,this,Result.andThen_ok,Sem.run_pure]
  ·cases h
 ·cases h
theorem calleeOf_sound{N:Nat}{ea:Operand->Value}{a:Act}(hE:∀x,V ρ N (ea x) (a.eval x)){o:Oper}{c:Call}(ho:o.op=.call c){g:FuncId}{args:List Value}(h:calleeOf ea c=some (g,args)):
  ∃cargs,Vs ρ N args cargs∧∀w:World,(execOp a.eval o).run P w=(callFunc g ⟨cargs⟩).run P w:=by
 unfold calleeOf at h;split at h
 ·rename_i f hc;split at h
  ·rename_i g' first captured hf
   cases h;have hfv:=hE f;rw[hf]at hfv;generalize hcf:a.eval f=cf at hfv;cases hfv with
   |@func _ _ first' _ captured' h1 h2 h3 h4=>
   refine⟨first'.toList++c.args.toList.map a.eval++captured'.toList,⟨by simp[h1,h3],fun i x y hx hy=>?_⟩,fun w=>?_⟩
   ·rw[List.append_assoc]at hx hy;rcases get_app hx with⟨p1,p2⟩|⟨p1,p2⟩
    ·rw[AQ (by simpa [<-h1]using p1)]at hy;exact h2 i x y (by simpa using p2) (by simpa using hy)
    ·rw[List.getElem?_append_right (by simpa [<-h1]using p1)]at hy;rw[show first'.toList.length=first.toList.length by simp[h1]]at hy
     rcases get_app p2 with⟨q1,q2⟩|⟨q1,q2⟩
     ·rw[AQ (by simpa using q1)]at hy;simp only[List.getElem?_map,Option.map_eq_some_iff]at q2 hy;obtain⟨u,hu,rfl⟩:=q2;obtain⟨v,hv,rfl⟩:=hy;rw[hu]at hv;cases hv;exact hE u
     ·rw[List.getElem?_append_right (by simpa using q1)]at hy;exact h4 _ x y (by simpa using q2) (by simpa using hy)
   ·have e1:(⟨first'.toList++c.args.toList.map a.eval++captured'.toList⟩:Array Value)=first'++c.args.map a.eval++captured':=by
     apply Array.ext';simp
    rw[e1];simp[execOp,ho,resolve,hc,hcf,Deferred.ofValue,invoke]
  ·cases h
 ·cases h
theorem plainV_atom{v:Value}(h:atom1 v=true):plainV v=true:=by
 cases v<;>first|exact h|simp[atom1]at h
theorem flatV_spec:∀{ds:List D}{xs:List Value}{m ys m'},flatV ds=some xs->fromD1s true ds m=some (ys,m')->ys=xs∧m'=m∧∀v∈xs,atom1 v=true
 |[],xs,m,ys,m',h,h'=>by
  simp[flatV]at h;simp[fromD1s]at h';subst h;exact⟨h'.1,h'.2.symm,fun v hv=>by simp at hv⟩
 |d::ds,xs,m,ys,m',h,h'=>by
  cases d with
  |v x=>
   simp only[flatV]at h;split at h
   ·rename_i xs' hxs;cases h;simp only[fromD1s,fromD1]at h';split at h'
    ·rename_i y m1 h1;split at h1
     ·rename_i ha;cases h1;split at h'
      ·rename_i ys2 m2 h2;cases h';obtain⟨rfl,rfl,k3⟩:=flatV_spec hxs h2;exact⟨rfl,rfl,fun v hv=>(A8.1 hv).elim (fun e=>e▸ha) (k3 v)⟩
      ·cases h'
     ·cases h1
    ·cases h'
   ·cases h
  |slice ks r=>simp[flatV]at h
  |ptr ks r=>simp[flatV]at h
  |err b=>simp[flatV]at h
  |agg ds'=>simp[flatV]at h
theorem allV_spec:∀{rs:List D}{vs:List Value}{m us m'},allV rs=some vs->fromDs true rs m=some (us,m')->us=vs∧m'=m∧∀v∈vs,plainV v=true
 |[],vs,m,us,m',h,h'=>by
  simp[allV]at h;simp[fromDs]at h';subst h;exact⟨h'.1,h'.2.symm,fun v hv=>by simp at hv⟩
 |d::ds,vs,m,us,m',h,h'=>by
  simp only[allV]at h;split at h
  ·rename_i x xs hx hxs;cases h;cases d with
   |v x'=>
    simp[isV]at hx;subst hx;simp only[fromDs,fromD,fromD1]at h';split at h'
    ·rename_i y m1 h1;split at h1
     ·rename_i ha;cases h1;split at h'
      ·rename_i ys m2 h2;cases h';obtain⟨rfl,rfl,k3⟩:=allV_spec hxs h2;exact⟨rfl,rfl,fun v hv=>(A8.1 hv).elim (fun e=>e▸plainV_atom ha) (k3 v)⟩
      ·cases h'
     ·cases h1
    ·cases h'
   |slice ks r=>simp[isV]at hx
   |ptr ks r=>simp[isV]at hx
   |err b=>simp[isV]at hx
   |agg ds'=>
    simp only[isV]at hx;split at hx
    ·rename_i zs hzs;cases hx;simp only[fromDs,fromD]at h';split at h'
     ·rename_i y m1 h1;split at h1
      ·rename_i us1 m2 h2;cases h1;obtain⟨rfl,rfl,k1⟩:=flatV_spec hzs h2;split at h'
       ·rename_i ys m3 h3;cases h';obtain⟨rfl,rfl,k3⟩:=allV_spec hxs h3;exact⟨rfl,rfl,fun v hv=>(A8.1 hv).elim (fun e=>by rw[e];exact List.all_eq_true.2 k1) (k3 v)⟩
       ·cases h'
      ·cases h1
     ·cases h'
    ·cases hx
  ·cases h
theorem V.plain0{N:Nat}{x y:Value}(h:V ρ N x y)(hp:atom1 x=true):y=x:=h.atom1_eq hp
theorem V.plain1{N:Nat}{x y:Value}(h:V ρ N x y)(hp:plainV x=true):y=x:=by
 cases x with
 |agg xs=>
  cases h with
  |agg h1 h2=>
   rename_i ys
   congr 1
   apply Array.ext
   ·exact h1.symm
   ·intro i hi hi';have ha:atom1 xs[i]=true:=List.all_eq_true.1 hp _ (by simp);exact V.plain0 (h2 i _ _ (AJ hi') (AJ hi)) ha
 |_=>exact V.plain0 h hp
theorem V.reflP{N:Nat}{v:Value}(hp:plainV v=true):V ρ N v v:=by
 cases v with
 |agg cs=>
  refine .agg rfl fun i x y hx hy=>?_;rw[hx]at hy;cases hy;have hm:x∈cs.toList:=by
   rw[A1]at hx;obtain⟨hi,rfl⟩:=hx;simp
  exact V.refl1 (List.all_eq_true.1 hp _ hm)
 |_=>exact V.refl1 hp
theorem V.plain{N:Nat}{vs:List Value}{c:Value}(h:V ρ N (tupV vs) c)(hp:∀v∈vs,plainV v=true):c=tupV vs:=by
 obtain⟨cs,rfl,h1,h2⟩:=tupV_V h
 congr 1
 apply List.ext_getElem?;intro i;by_cases hi:i<vs.length
 ·have hx:vs[i]? =some vs[i]:=AK hi;have hy:cs[i]? =some cs[i]:=AK (by omega);rw[hx,hy];have hv:=h2 i _ _ hx hy;have ha:=hp _ (List.getElem_mem hi);rw[V.plain1 hv ha]
 ·rw[List.getElem?_eq_none (by omega),List.getElem?_eq_none (by omega)]
theorem V.ofPlain{N:Nat}{vs:List Value}(hp:∀v∈vs,plainV v=true):V ρ N (tupV vs) (tupV vs):=
 Vs.tupV ⟨rfl,fun i x c hx hc=>by rw[hx]at hc;cases hc;exact V.reflP (hp x (List.mem_of_getElem? hx))⟩
theorem Vs.plainEq{N:Nat}{xs cs:List Value}(h:Vs ρ N xs cs)(hp:∀v∈xs,plainV v=true):cs=xs:=by
 have hl:xs.length=cs.length:=h.1;apply List.ext_getElem?;intro i;by_cases hi:i<xs.length
 ·have hx:xs[i]? =some xs[i]:=AK hi;have hy:cs[i]? =some cs[i]:=AK (by omega);rw[hx,hy,V.plain1 (h.2 i _ _ hx hy) (hp _ (List.getElem_mem hi))]
 ·rw[List.getElem?_eq_none (by omega),List.getElem?_eq_none (by omega)]
theorem evQ_sound{α:Type}{C:Cx}{wb:World}(hC:CxAt C wb)(hwb:Below wb.heap.size wb w){calls:Bool}{σ:St}(hm:MemR σ.mem ρ B w){a:Act}(hE:∀x,V ρ σ.mem.length (env σ.τ x) (a.eval x)){o:Oper}{k:Value->Option α}{r:α}(h:evQ C calls σ.mem (env σ.τ) o k=some r):
  ∃v cv,k v=some r∧V ρ σ.mem.length v cv∧(∀w',Below w.heap.size w w'->o.quietAt C.P a (fun w'=>Below w.heap.size w w') w' cv)∧(calls=false->∀w',Below w.heap.size w w'->(execOp a.eval o).run C.P w'=.ok (.value cv) w'):=by
 have pure:∀h:evPure C.P σ.mem (env σ.τ) o k=some r,∃v cv,k v=some r∧V ρ σ.mem.length v cv∧(∀w',Below w.heap.size w w'->o.quietAt C.P a (fun w'=>Below w.heap.size w w') w' cv)∧(calls=false->∀w',Below w.heap.size w w'->(execOp a.eval o).run C.P w'=.ok (.value cv) w'):=by
  intro h;obtain⟨v,cv,h1,h2,h3⟩:=evPure_sound hm hE h;refine⟨v,cv,h1,h2,fun w' hw'=>?_,fun _ w' hw'=>h3 w' hw'⟩;unfold Oper.quietAt;rw[h3 w' hw'];exact⟨rfl,rfl⟩
 unfold evQ at h;split at h
 ·rename_i t parts ho;obtain⟨v,cv,h1,h2,h3⟩:=evBuild_sound hE ho h;refine⟨v,cv,h1,h2,fun w' _=>?_,fun _ w' _=>h3 w'⟩;unfold Oper.quietAt;rw[h3 w'];exact⟨rfl,rfl⟩
 ·rename_i c ho;split at h
  ·rename_i g args hg;obtain⟨cargs,hv,hrun⟩:=calleeOf_sound (P:=C.P) hE ho hg;split at h
   ·rename_i f hX;split at h
    ·rename_i bb vs hf;cases bb with
     |false=>cases h
     |true=>
     obtain⟨p1,p2,p3⟩:=hC.ext g f hX args vs hf;rw[hv.plainEq p1]at hrun;refine⟨tupV vs,tupV vs,h,V.ofPlain p2,fun w' _=>?_,fun _ w' _=>?_⟩
     ·unfold Oper.quietAt;rw[hrun,p3];exact⟨rfl,rfl⟩
     ·rw[hrun,p3]
    ·cases h
   split at h
   ·rename_i F ds hok hF hds;split at h
    ·rename_i cnd rs hrs;split at h
     ·rename_i vs hvs;cases cnd with
      |false=>cases h
      |true=>
      change k (tupV vs)=some r at h;simp only[A2]at hok;have hpl:∀v∈vs,plainV v=true:=by
       intro v hv';have hcall:=(hC.den g F hF).call hwb hm hds hv hrs;obtain⟨e,w',fr,⟨cv,_,_,us,mem',ρ',h1,_⟩,_⟩:=hcall [];exact(allV_spec hvs h1).2.2 v hv'
      refine⟨tupV vs,tupV vs,h,V.ofPlain hpl,fun w' hw'=>?_,fun hcf=>by rw[hcf]at hok;cases hok.1⟩;unfold Oper.quietAt;rw[hrun,hC.enter g hok.2];refine⟨rfl,((hC.den g F hF).call (hwb.trans (hw'.mono hwb.size)) (hm.later hw') hds hv hrs).mono fun e w'' ⟨cv,he,hb,us,mem',ρ',h1,h2,h3⟩=>?_⟩;obtain⟨rfl,_,_⟩:=allV_spec hvs h1;rw[V.plain h3 hpl]at he;exact⟨he,hw'.trans (hb.mono hw'.size)⟩
     ·cases h
    ·cases h
   ·cases h
  ·exact pure h
 ·exact pure h
end
section
variable{P:Program}{mem mem':List (Option Blk)}{ρ ρ':Map}{B:Nat}{w w':World}
theorem Rel.reput{w0:World}{σ:St}{a:Act}{cs:List (Array Value)}(h:Rel w0 σ a cs w ρ){t:Tmp}{x y:Value}(hy:a.tmps[t]? =some y)(hxy:V ρ σ.mem.length x y):Rel w0 (σ.put (some t) x) a cs w ρ:=by
 have h1:=h.tmps.set t hxy;have h2:a.tmps.setIfInBounds t y=a.tmps:=by
  apply Array.ext_getElem?;intro i;rw[Array.getElem?_setIfInBounds];by_cases hi:t=i
  ·subst hi;have:=(A1.1 hy).1;simp[this,<-hy]
  ·simp[hi]
 rw[h2]at h1;exact⟨h.defers,h1,h.saved,h.below,h.mem⟩
theorem guard_sound{α:Type}{w0:World}{σ:St}{a:Act}{cs:List (Array Value)}(hR:Rel w0 σ a cs w ρ){ops:Array Oper}{o:Oper}{yes no:St->Option α}{r:α}(h:guardV ops.toList σ o yes no=some r):
  (Region.wanted o (yielded ops a.tmps)=true∧∃σ',Rel w0 σ' a cs w ρ∧yes σ'=some r)∨(Region.wanted o (yielded ops a.tmps)=false∧∃σ',Rel w0 σ' a cs w ρ∧no σ'=some r):=by
 simp only[guardV,getF_eq,putK_eq]at h;split at h
 ·rename_i hg;exact .inl ⟨by simp[Region.wanted,hg],σ,hR,h⟩
 ·rename_i j want hg;split at h
  ·rename_i t ht;have ht':(ops[j]?).bind (·.dst)=some t:=by simpa using ht
   have hlt:∀v,σ.τ.getD t unk=v->v≠unk->σ.τ[t]? =some v:=by
    intro v hv hne;rw[List.getD_eq_getElem?_getD]at hv;cases hx:σ.τ[t]? with
    |none=>rw[hx]at hv;exact absurd hv.symm hne
    |some x=>rw[hx]at hv;simp at hv;rw[hv]
   split at h
   ·rename_i b hb;have h1:=hlt _ hb (by simp);have hsz:t<a.tmps.size:=by rw[<-hR.tmps.1];exact(A0.1 h1).1
    have h2:a.tmps[t]? =some a.tmps[t]:=AJ hsz;have h3:=hR.tmps.2 t _ _ h1 h2;generalize a.tmps[t]=y at*
    cases h3;have hy:yielded ops a.tmps j=some b:=by simp[yielded,ht',h2]
    have hput:∀c:Bool,b=c->Rel w0 (σ.put (some t) (.bool c)) a cs w ρ:=fun c hc=>hR.reput h2 (by rw[hc];exact .bool);split at h
    ·cases b with
     |true=>exact .inl ⟨by simp[Region.wanted,hg,hy],_,hput true rfl,h⟩
     |false=>exact .inr ⟨by simp[Region.wanted,hg,hy],_,hput false rfl,h⟩
    ·cases b with
     |true=>exact .inr ⟨by simp[Region.wanted,hg,hy],_,hput true rfl,h⟩
     |false=>exact .inl ⟨by simp[Region.wanted,hg,hy],_,hput false rfl,h⟩
   ·rename_i hb;have h1:=hlt _ hb (by simp);have hsz:t<a.tmps.size:=by rw[<-hR.tmps.1];exact(A0.1 h1).1
    have h2:a.tmps[t]? =some a.tmps[t]:=AJ hsz;have h3:=hR.tmps.2 t _ _ h1 h2;generalize a.tmps[t]=y at*
    cases h3;have hy:yielded ops a.tmps j=none:=by simp[yielded,ht',h2]
    exact .inr ⟨by simp[Region.wanted,hg,hy],σ,hR,h⟩
   ·cases h
  ·cases h
def InlOk{α:Type}(C:Cx)(w0:World)(f:FuncId->List Value->St->(Value->St->Option α)->Option α):Prop:=∀(g:FuncId)(args:List Value)(σ:St)(k:Value->St->Option α)(r:α),f g args σ k=some r->∀(a:Act)(cs:List (Array Value))(w:World)(ρ:Map)(cargs:List Value),Rel w0 σ a cs w ρ->Vs ρ σ.mem.length args cargs->Calls C.P g ⟨cargs⟩ w fun e w'=>∃cv v σ1 ρ1,e=.returned cv∧Rel w0 σ1 a cs w' ρ1∧V ρ1 σ1.mem.length v cv∧k v σ1=some r
theorem rel_new{w0:World}{σ:St}{a:Act}{cs:List (Array Value)}(hR:Rel w0 σ a cs w ρ){blk:Blk}{ρ1:Map}{w1:World}(hb:Below w0.heap.size w0 w1)(hm:MemR (σ.mem++[some blk]) ρ1 w0.heap.size w1)(hρ:∀id,id<σ.mem.length->Less ρ ρ1 id)
  {d:Option Tmp} {v:Nat->Value} {cv:Value} (hv:V ρ1 (σ.mem.length+1) (v σ.mem.length) cv):Rel w0 (σ.new d v blk) (a.put d cv) cs w1 ρ1:=by
 have h1:=hR.mono hb hm (by simp) hρ;exact h1.put d (by simpa using hv)
set_option maxHeartbeats 1000000 in
theorem evEff_sound{α:Type}{C:Cx}{w0:World}(hC:CxAt C w0){inl:FuncId->List Value->St->(Value->St->Option α)->Option α}(hinl:InlOk C w0 inl){σ:St}{a:Act}{cs:List (Array Value)}(hR:Rel w0 σ a cs w ρ){o:Oper}{k:St->Option α}{r:α}
  (hby:(∃s d x,o.op=.convert s d x)->isBytes C.P o.op=true) (h:evEff C σ o inl k=some r) {K:Act->World->Prop} {Q:Exit->Act->World->Prop} (hK:∀(σ1:St)(a1:Act)(w1:World)(ρ1:Map),Rel w0 σ1 a1 cs w1 ρ1->k σ1=some r->K a1 w1):o.wp C.P a w K Q:=by
 have hE:∀x,V ρ σ.mem.length (env σ.τ x) (a.eval x):=fun x=>hR.tmps.env x;have hB:w0.heap.size<=w.heap.size:=hR.below.size;unfold evEff at h;simp only at h;split at h
 ·
  rename_i t ho;split at h
  ·rename_i z hz;split at h
   ·rename_i hat;obtain⟨it,hi,hiz⟩:=Option.bind_eq_some_iff.1 hz;have hrun:(execOp a.eval o).run C.P w=.ok (.value (.pointer (some ⟨w.heap.size,0,none⟩))) (w.alloc (.cells z.cells t)):=by
     simp[execOp,ho,Instr.alloc,zeroValue,run_typeInfo hi,hiz,newVar,newRow]
    have hu:isUnk z=false:=by cases z<;>first|rfl|simp[atom]at hat
    have hv:=(V.atom (ρ:=ρ) (N:=σ.mem.length) hat).cells hu;obtain⟨L,hL1,hL2,hm⟩:=hR.mem.box hB (xs:=lcells z) (c:=z.cells) t hv.1.symm (fun i x y hx hy=>hv.2 i x y hx hy);unfold Oper.wp;rw[hrun];refine hK _ _ _ _ (rel_new hR (below_alloc hB hR.below _) hm (fun id hid=>.inl (Map.snoc_old hid)) ?_) h;have:=V.ptr (ρ:=Map.snoc ρ σ.mem.length L) (N:=σ.mem.length+1) (id:=σ.mem.length) (e:=0) (j:=0) (L:=L) (by omega) Map.snoc_new (by omega);rw[hL2]at this;exact this
   ·cases h
  ·cases h
 ·
  rename_i t x ho;split at h
  ·rename_i hu;have hrun:(execOp a.eval o).run C.P w=.ok (.value (.pointer (some ⟨w.heap.size,0,none⟩))) (w.alloc (.cells (a.eval x).cells t)):=by
    simp[execOp,ho,Instr.box,newVar,newRow]
   have hv:=(hE x).cells hu;obtain⟨L,hL1,hL2,hm⟩:=hR.mem.box hB (xs:=lcells (env σ.τ x)) (c:=(a.eval x).cells) t hv.1.symm (fun i x y hx hy=>hv.2 i x y hx hy);unfold Oper.wp;rw[hrun];refine hK _ _ _ _ (rel_new hR (below_alloc hB hR.below _) hm (fun id hid=>.inl (Map.snoc_old hid)) ?_) h;have:=V.ptr (ρ:=Map.snoc ρ σ.mem.length L) (N:=σ.mem.length+1) (id:=σ.mem.length) (e:=0) (j:=0) (L:=L) (by omega) Map.snoc_new (by omega);rw[hL2]at this;exact this
  ·cases h
 ·
  rename_i t parts ho;obtain⟨v,cv,h1,h2,h3⟩:=evBuild_sound (P:=C.P) hE ho h;unfold Oper.wp;rw[h3 w];exact hK _ _ _ _ (hR.put _ h2) h1
 ·
  rename_i t len parts ho;split at h
  ·rename_i el hu;split at h
   ·rename_i ei hei hall;split at h
    ·rename_i z hz;split at h
     ·rename_i hcond;obtain⟨c1,c2,c3⟩:=hcond;split at h
      ·rename_i cells hfill;obtain⟨z1,z2⟩:=zeroOk_spec c3;have hzs:z.cells.size=(kinds C.P 8 el).length:=by rw[<-z1,<-cells_lcells];simp
       have hbase:∀(i:Nat)(x y:Value),((Array.range (len*ei.size)).map (z.cells[· %z.cells.size]!))[i]? =some x->((Array.range (len*ei.size)).map (z.cells[· %z.cells.size]!))[i]? =some y->V ρ σ.mem.length x y:=by
        intro i x y hx hy;rw[hx]at hy;cases hy;have hi:i<len*ei.size:=by have:=(A1.1 hx).1;simpa using this
        have hpos:0<ei.size:=by
         rcases Nat.eq_zero_or_pos ei.size with h0|h0
         ·rw[h0]at hi;omega
         ·exact h0
        have hm:i%z.cells.size<z.cells.size:=Nat.mod_lt _ (by omega);simp only[Array.getElem?_map,Array.getElem?_range,hi,if_true,Option.map_some,A5]at hx;rw[getElem!_pos z.cells _ hm]at hx;subst hx;exact zeroOk_V c3 (i%z.cells.size) _ (by rw[<-cells_lcells];simp[hm])
       have hpq:∀(i:Nat)(p q:Nat×Value),(parts.toList.map fun p=>(p.1,env σ.τ p.2))[i]? =some p->((parts.map fun(i,x)=>(i,a.eval x)).toList)[i]? =some q->p.1=q.1∧isUnk p.2=false∧V ρ σ.mem.length p.2 q.2:=by
        intro i p q hp hq;have hun:=List.all_eq_true.1 hall p (List.mem_of_getElem? hp);simp only[Array.toList_map,List.getElem?_map,Option.map_eq_some_iff]at hp hq;obtain⟨x,hx,rfl⟩:=hp;obtain⟨y,hy,rfl⟩:=hq;rw[hx]at hy;cases hy;exact⟨rfl,by simpa using hun,hE _⟩
       obtain⟨out',o1,o2,o3,o4⟩:=fill_V (ρ:=ρ) (N:=σ.mem.length) _ ((parts.map fun(i,x)=>(i,a.eval x)).toList) _ ((Array.range (len*ei.size)).map (z.cells[· %z.cells.size]!)) cells hfill (by simp) hpq rfl hbase;have hcs:cells.size=len*ei.size:=by rw[o3];simp
       have hrun:(execOp a.eval o).run C.P w=.ok (.value (.slice (some ⟨w.heap.size,0,none⟩) len len)) (w.alloc (.cells out' el)):=by
        have h24:¬(len*ei.size>2^24):=by omega
        rcases Nat.eq_zero_or_pos (len*ei.size)with h0|h0
        ·have e0:∀f:Nat->Value,(Array.range (len*ei.size)).map f= #[]:=by intro f;rw[h0];simp[Array.range_zero']
         rw[e0]at o1;simp only[execOp,ho];simp only[Instr.buildSlice,Sem.run_bind,run_underlying hu,run_sizeOf hei,Result.andThen_ok,AL h24,AM h0,Sem.run_pure,e0,o1,newRow,newObj];rfl
        ·have hne:¬(len*ei.size=0):=by omega
         simp only[execOp,ho];simp only[Instr.buildSlice,Sem.run_bind,run_underlying hu,run_sizeOf hei,Result.andThen_ok,AL h24,AL hne,zeroValue,run_typeInfo hei,hz,Sem.run_pure,o1,newRow,newObj];rfl
       split at h
       ·
        rename_i hlen0;have hl0:len=0:=AF hlen0;have hz0:out'.size=0:=by rw[<-o2,hcs,hl0,Nat.zero_mul]
        obtain⟨L,hL1,hL2,hm⟩:=hR.mem.box hB (xs:=[]) (c:=out') el hz0 (fun i x y hx hy=>by simp at hx);unfold Oper.wp;rw[hrun];refine hK _ _ _ _ (rel_new hR (below_alloc hB hR.below _) hm (fun id hid=>.inl (Map.snoc_old hid)) ?_) h;rw[hl0];exact .sliceNil
       split at h
       ·
        rename_i rr mem1 hsl hlit;obtain⟨sub,k1,k3,k5,k6,k7⟩:=litD_sound hR.mem (ks:=kinds C.P 8 el) (n:=len) (cells:=cells.toList) (ccs:=out'.toList) (by simp[hcs,c2]) (by simp[o2]) (fun i x c hx hc=>o4 i x c (by simpa using hx) (by simpa using hc)) mem1 rr hlit;have hrn:rr.n=len:=k1;have hcell:∀(e j:Nat)(kk:CK),e<rr.n->(kinds C.P 8 el)[j]? =some kk->out'[e*(kinds C.P 8 el).length+j]? =some (out'.getD (e*(kinds C.P 8 el).length+j) undef):=by
         intro e j kk he hk;have hj:j<(kinds C.P 8 el).length:=(A0.1 hk).1;have hlt:e*(kinds C.P 8 el).length+j<out'.size:=by
          have:(e+1)*(kinds C.P 8 el).length<=len*(kinds C.P 8 el).length:=AH _ (by omega);rw[Nat.add_mul,Nat.one_mul]at this;rw[<-o2,hcs,c2];omega
         rw[AJ hlt,Array.getD_eq_getD_getElem?,AJ hlt,Option.getD_some]
        obtain⟨ρ',n1,n2,n3⟩:=hR.mem.newDeep hB k3 (ks:=kinds C.P 8 el) (r:=rr) (c:=out') (T:=el) (tot:=len) (sub:=sub) (by rw[<-o2,hcs,c2];exact AC _) (by omega) (fun e j=>out'.getD (e*(kinds C.P 8 el).length+j) undef) hcell
         (fun e j kk he hk=>k5 e j kk _ (by omega) hk (by simpa using hcell e j kk he hk)) (fun e j b hb=>by
          obtain⟨q1,q2,id,q3,q4⟩:=k6 e j b hb;exact⟨by omega,q2,id,q3,q4⟩) k7
        unfold Oper.wp;rw[hrun];have hR1:Rel w0 {σ with mem:=mem1++[some (.deep (kinds C.P 8 el) rr none)]} a cs (w.alloc (.cells out' el)) ρ':=hR.mono (below_alloc hB hR.below _) n1 (by simp[k3.1]) n2;have h9:=hR1.put o.dst (x:=sl0 len σ.mem.length) (y:=.slice (some ⟨w.heap.size,0,none⟩) len len) (by
         rw[hrn]at n3;exact V.newDeep n3 (by simp[k3.1]) (AC _) (AC _))
        refine hK _ _ _ ρ' ?_ h;simpa [St.new,k3.1]using h9
       split at h
       ·rename_i rr mem1 hlit;obtain⟨ρ1,k1,k2,k3,_,k5⟩:=litRow_sound (w:=w) (ks:=kinds C.P 8 el) (n:=len) (cells:=cells.toList) (ccs:=out'.toList) (by simp[hcs,c2]) (by simp[o2]) len σ.mem mem1 ρ _ rr hlit (AC _) hR.mem (fun i x c hx hc=>o4 i x c (by simpa using hx) (by simpa using hc));have hrn:rr.n=len:=k3;have hm3:=MemR.newRow (w:=w) (w1:=w) k2 hB (ks:=kinds C.P 8 el) (r:=rr) (c:=out') (T:=el) (tot:=len) (Below.refl _ _) rfl (by rw[<-o2,hcs,c2];exact AC _) (by omega) (fun e j=>out'.getD (e*(kinds C.P 8 el).length+j) undef)
         (fun e j kk he hk=>by
          have hj:j<(kinds C.P 8 el).length:=(A0.1 hk).1;have hlt:e*(kinds C.P 8 el).length+j<out'.size:=by
           have:(e+1)*(kinds C.P 8 el).length<=len*(kinds C.P 8 el).length:=AH _ (by omega);rw[Nat.add_mul,Nat.one_mul]at this;rw[<-o2,hcs,c2];omega
          rw[AJ hlt,Array.getD_eq_getD_getElem?,AJ hlt,Option.getD_some])
         (fun e j kk he hk=>by
          have hj:j<(kinds C.P 8 el).length:=(A0.1 hk).1;have hlt:e*(kinds C.P 8 el).length+j<out'.size:=by
           have:(e+1)*(kinds C.P 8 el).length<=len*(kinds C.P 8 el).length:=AH _ (by omega);rw[Nat.add_mul,Nat.one_mul]at this;rw[<-o2,hcs,c2];omega
          refine k5 e j kk _ (by omega) (by omega) hk ?_;rw[Array.getD_eq_getD_getElem?,AJ hlt,Option.getD_some];simp[hlt])
        have hR1:=hR.mono hR.below k2 (by rw[k1.len];exact AC _) (fun id _=>k1.less id);unfold Oper.wp;rw[hrun];refine hK _ _ _ _ (rel_new hR1 (below_alloc hB hR.below _) hm3 (fun id hid=>.inl (Map.snoc_old hid)) ?_) h;rw[hrn];exact V.newRow (by simp) (AC _) (AC _)
       ·cases h
      ·cases h
     ·cases h
    ·cases h
   ·cases h
  ·cases h
 ·
  rename_i t x y ho;split at h
  ·rename_i mem1 hs;obtain⟨w',ρ1,k1,k2,k3,k4,k5⟩:=storeV_sound hs hR.mem (hE x) (hE y);have hrun:(execOp a.eval o).run C.P w=.ok .skip w':=by
    simp[execOp,ho,k1]
   unfold Oper.wp;rw[hrun];have hR1:=hR.mono (k5 w0 hR.below) k2 (by omega) (fun id _=>k4 id);exact hK _ _ _ _ (hR1.put _ (.tuple rfl fun i x y hx _=>by simp at hx)) h
  ·split at h
   ·rename_i cnd mem1 hs;obtain⟨hc,h⟩:=br_none' h;subst hc;obtain⟨w',ρ1,k1,k2,k3,k4,k5⟩:=storeD_sound hs hR.mem (hE x) (hE y);have hrun:(execOp a.eval o).run C.P w=.ok .skip w':=by
     simp[execOp,ho,k1]
    unfold Oper.wp;rw[hrun];have hR1:=hR.mono (k5 w0 hR.below) k2 (by omega) k4;exact hK _ _ _ _ (hR1.put _ (.tuple rfl fun i x y hx _=>by simp at hx)) h
   ·cases h
 ·
  rename_i t l c ho;have hl:=hE l;have hc:=hE c;split at h
  ·rename_i el kl l' kc c' hu hl' hc';rw[hl']at hl;rw[hc']at hc;split at h
   ·rename_i ei hei;split at h
    ·rename_i z hz;split at h
     ·rename_i hcond;split at h
      ·rename_i hdk;rw[A2]at hdk;obtain⟨hb,h⟩:=br_none' h;simp only[A2,A3]at hb;generalize hcl:a.eval l=cl at hl;generalize hcc:a.eval c=cc at hc;cases hl;cases hc;obtain⟨ρ',cv,w',k1,k2,k3,k4,k5⟩:=makeDeep_sound (P:=C.P) hR.mem hB hu hei hz hcond.1 hcond.2.1 hcond.2.2 hdk.2 kl kc hb.1.1 hb.1.2 hb.2;have hrun:(execOp a.eval o).run C.P w=.ok (.value cv) w':=by
        simp[execOp,ho,hcl,hcc,k1]
       unfold Oper.wp;rw[hrun];exact hK _ _ _ _ (rel_new hR (k5 w0 hB hR.below) k2 k3 k4) h
      obtain⟨hb,h⟩:=br_none' h;simp only[A2,A3]at hb;generalize hcl:a.eval l=cl at hl;generalize hcc:a.eval c=cc at hc;cases hl;cases hc;obtain⟨L,cv,w',k1,k2,k3,k4⟩:=makeSlice_sound (P:=C.P) hR.mem hB hu hei hz hcond.1 hcond.2.1 hcond.2.2 kl kc hb.1.1 hb.1.2 hb.2;have hrun:(execOp a.eval o).run C.P w=.ok (.value cv) w':=by
       simp[execOp,ho,hcl,hcc,k1]
      unfold Oper.wp;rw[hrun];exact hK _ _ _ _ (rel_new hR (k4 w0 hB hR.below) k2 (fun id hid=>.inl (Map.snoc_old hid)) k3) h
     ·cases h
    ·cases h
   ·cases h
  ·cases h
 ·
  rename_i src dst x ho;have hx:=hE x;split at h
  ·rename_i el s hu hxs;rw[hxs]at hx;split at h
   ·rename_i ei hu8 hei;split at h
    ·rename_i hsz;generalize hcx:a.eval x=cx at hx;cases hx;have hns:isBytes C.P o.op=true:=hby ⟨_,_,_,ho⟩;have hsrc:C.P.underlying src=some .string:=by
      rw[ho]at hns;unfold isBytes at hns;simp only at hns;split at hns
      ·assumption
      ·cases hns
     obtain⟨L,cv,w',k1,k2,k3,k4⟩:=bytes_sound (P:=C.P) hR.mem s hsrc hu hu8;have hrun:(execOp a.eval o).run C.P w=.ok (.value cv) w':=by
      simp[execOp,ho,hcx,k1]
     unfold Oper.wp;rw[hrun];exact hK _ _ _ _ (rel_new hR (hR.below.trans (k4.mono hB)) k2 (fun id hid=>.inl (Map.snoc_old hid)) k3) h
    ·cases h
   ·cases h
  ·cases h
 ·
  rename_i t ho;split at h
  ·rename_i kt et hu;have hrun:(execOp a.eval o).run C.P w=.ok (.value (.map (some w.heap.size))) (w.alloc (.map #[] 0)):=by
    have hmk:(Instr.makeMap t none).run C.P w=.ok (.map (some w.heap.size)) (w.alloc (.map #[] 0)):=rfl;simp[execOp,ho,hmk]
   split at h
   ·rename_i kd hk he;have hm:=hR.mem.newMap hB (k:=.int kd) (z:=.int kd 0) rfl;unfold Oper.wp;rw[hrun];exact hK _ _ _ _ (rel_new hR (below_alloc hB hR.below _) hm (fun id hid=>.inl (Map.snoc_old hid)) (.map (by omega) Map.snoc_new)) h
   ·have hm:=hR.mem.newMap hB (k:=.bool) (z:=.bool false) rfl;unfold Oper.wp;rw[hrun];exact hK _ _ _ _ (rel_new hR (below_alloc hB hR.below _) hm (fun id hid=>.inl (Map.snoc_old hid)) (.map (by omega) Map.snoc_new)) h
   ·cases h
  ·cases h
 ·
  rename_i t m x v ho;split at h
  ·rename_i kt et hu;split at h
   ·rename_i mem1 hk hs;obtain⟨w',ρ1,k1,k2,k3,k4,k5⟩:=mapStore_sound hs hR.mem hu hk (hE m) (hE x) (hE v);have hrun:(execOp a.eval o).run C.P w=.ok .skip w':=by
     simp[execOp,ho,k1]
    unfold Oper.wp;rw[hrun];have hR1:=hR.mono (k5 w0 hR.below) k2 (by omega) k4;exact hK _ _ _ _ (hR1.put _ (.tuple rfl fun i x y hx _=>by simp at hx)) h
   ·cases h
  ·cases h
 ·
  rename_i c ho;split at h
  ·rename_i hcal;split at h
   ·rename_i st xt s x hat has;have ea:c.argTypes= #[st,xt]:=by rw[<-Array.toArray_toList (xs:=c.argTypes),hat]
    obtain⟨p,q,hpq⟩:∃p q,c.args.toList=[p,q]:=by
     have hlen:c.args.toList.length=2:=by have:=congrArg List.length has;simpa using this
     match hc:c.args.toList,hlen with
     |[p,q],_=>exact⟨p,q,rfl⟩
    rw[hpq]at has;simp only[List.map_cons,List.map_nil,List.cons.injEq,and_true]at has;have eargs:c.args= #[p,q]:=by rw[<-Array.toArray_toList (xs:=c.args),hpq]
    split at h
    ·rename_i el hu hsk;split at h
     ·rename_i ei hei;split at h
      ·rename_i z hz;split at h
       ·rename_i hcond;split at h
        ·rename_i ido rr n r2 hd hsrc;obtain⟨hb,h⟩:=br_none' h;simp only[A3]at hb;obtain⟨ρt,t1,t2,t3⟩:=takeDst_sound hR.mem s;have hRt:Rel w0 {σ with mem:=takeDst σ.mem s} a cs w ρt:=hR.mono hR.below t1 (by omega) t3;have hs:=hRt.tmps.env p;have hx:=hRt.tmps.env q;rw[show env ({σ with mem:=takeDst σ.mem s}:St).τ p=s from has.1]at hs;rw[show env ({σ with mem:=takeDst σ.mem s}:St).τ q=x from has.2]at hx;obtain⟨consts,hbrun⟩:=run_builtin (P:=C.P) a o c .append ho hcal;obtain⟨ρ1,cv,w',k1,k2,k3,k4,k5⟩:=append_sound (P:=C.P) (ty:=o.type) t1 hB hu hei hz hcond.1 hcond.2.1 hcond.2.2 hd hsrc hsk hb hs hx;have hrun:(execOp a.eval o).run C.P w=.ok (.value cv) w':=by
          rw[hbrun,eargs,ea];simp[builtin,k1]
         unfold Oper.wp;rw[hrun];cases ido with
         |none=>
          have hR1:Rel w0 {σ with mem:=takeDst σ.mem s++[some (.row (kinds C.P 8 el) true (rr.app r2))]} a cs w' ρ1:=hRt.mono (k5 w0 rfl hB hR.below) k2 (by simp) k3;exact hK _ _ _ ρ1 (hR1.put o.dst (by simpa using k4)) h
         |some i=>
          have hR1:Rel w0 {σ with mem:=(takeDst σ.mem s).set i none++[some (.row (kinds C.P 8 el) true (rr.app r2))]} a cs w' ρ1:=hRt.mono (k5 w0 rfl hB hR.below) k2 (by simp) k3;have h9:=hR1.put o.dst (x:=sl0 (n+r2.n) (takeDst σ.mem s).length) (y:=cv) (by simpa using k4);refine hK _ _ _ ρ1 ?_ h;simpa [St.new]using h9
        ·split at h
         ·rename_i mem1 rr n hd;obtain⟨hb,h⟩:=br_none' h;simp only[A3]at hb;have hs:=hR.tmps.env p;have hx:=hR.tmps.env q;rw[show env σ.τ p=s from has.1]at hs;rw[show env σ.τ q=x from has.2]at hx;obtain⟨consts,hbrun⟩:=run_builtin (P:=C.P) a o c .append ho hcal;obtain⟨ρ1,cv,w',k1,k2,k3,k4,k5,k6⟩:=appDeep_sound (P:=C.P) (ty:=o.type) hR.mem hB hu hei hz hcond.1 hcond.2.1 hcond.2.2 hd hsk hb hs hx;have hrun:(execOp a.eval o).run C.P w=.ok (.value cv) w':=by
           rw[hbrun,eargs,ea];simp[builtin,k1]
          unfold Oper.wp;rw[hrun];have hR1:Rel w0 {σ with mem:=mem1++[some (.deep (kinds C.P 8 el) rr none)]} a cs w' ρ1:=hR.mono (k6 w0 rfl hB hR.below) k2 (by simp[k3]) k4;have h9:=hR1.put o.dst (x:=sl0 n σ.mem.length) (y:=cv) (by simpa [k3]using k5);refine hK _ _ _ ρ1 ?_ h;simpa [St.new,k3]using h9
         ·cases h
       ·cases h
      ·cases h
     ·cases h
    ·cases h
   ·cases h
  ·cases h
  ·split at h
   ·rename_i g args hg;split at h
    ·rename_i f hX;obtain⟨cargs,hv,hrun⟩:=calleeOf_sound (P:=C.P) hE ho hg;split at h
     ·rename_i bb vs hf;cases bb with
      |false=>cases h
      |true=>
      obtain⟨p1,p2,p3⟩:=hC.ext g f hX args vs hf;rw[hv.plainEq p1]at hrun;unfold Oper.wp;rw[hrun,p3];exact hK _ _ _ _ (hR.put o.dst (V.ofPlain p2)) h
     ·cases h
    split at h
    ·rename_i hok;obtain⟨cargs,hv,hrun⟩:=calleeOf_sound (P:=C.P) hE ho hg;split at h
     ·rename_i F hF;split at h
      ·rename_i ds hds;split at h
       ·rename_i cnd rs hrs;split at h
        ·rename_i us mem1 hfrom;cases cnd with
         |false=>cases h
         |true=>
         change k _=some r at h;unfold Oper.wp;rw[hrun,hC.enter g hok];show Calls _ _ _ _ _;refine((hC.den g F hF).callP hR.below hR.mem hds hv hrs).mono fun e w' ⟨cv,he,hb,us',mem',ρ',h1,h2,h3⟩=>?_;subst he;obtain⟨us2,ρ2,m1,m2,m3,m4⟩:=import_sound hR.mem hb hB h1 h2 h3;rw[hfrom]at m1;cases m1;have hR1:=hR.mono (hR.below.trans (hb.mono hB)) m2 (by simp) (fun id hid=>.inl (m3 id hid));exact hK _ _ _ _ (hR1.put o.dst m4) h
        ·cases h
       ·cases h
      ·cases h
     ·split at h
      ·rename_i F hF;split at h
       ·rename_i b v σ1 hFa;cases b with
        |false=>cases h
        |true=>
        unfold Oper.wp;rw[hrun,hC.enter g hok];show Calls _ _ _ _ _;refine(hC.inpl g F hF w0 (Below.refl _ _) args σ v σ1 hFa a cs w ρ cargs hR hv).mono fun e w' ⟨cv,ρ1,he,h1,h2⟩=>?_;subst he;exact hK _ _ _ _ (h1.put o.dst h2) h
       ·cases h
      ·unfold Oper.wp;rw[hrun,hC.enter g hok];show Calls _ _ _ _ _;refine(hinl g args σ _ r h a cs w ρ cargs hR hv).mono fun e w' ⟨cv,v,σ1,ρ1,he,h1,h2,h3⟩=>?_;subst he;exact hK _ _ _ _ (h1.put o.dst h2) h3
    ·cases h
   ·cases h
 ·cases h
end
end Go.Ev

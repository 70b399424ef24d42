import Derived.Test.YtnljjjghpgdmoaaGreatDoorXah
import Derived.Test.YtnljjjghpgdmoaaGreatDoorRows
import Derived.Shelf.Spec.TrailingZeros
import Derived.WalkKit
set_option linter.all false
namespace Go.Ev
open Go.RowKit
mutual
inductive RdA:List CK->Row->Row->Prop
 |mk{ks:List CK}{r r':Row}(hn:r.n=r'.n)(h:∀e j k,e<r.n->ks[j]? =some k->PN k r r' e j):RdA ks r r'
inductive PN:CK->Row->Row->Nat->Nat->Prop
 |int{k:IntKind}{r r':Row}{e j:Nat}:r.I e j=r'.I e j->PN (.int k) r r' e j
 |bool{r r':Row}{e j:Nat}:r.B e j=r'.B e j->PN .bool r r' e j
 |str{r r':Row}{e j:Nat}:r.S e j=r'.S e j->PN .str r r' e j
 |slice{sub:List CK}{r r':Row}{e j:Nat}:RdA sub (r.R e j) (r'.R e j)->PN (.slice sub) r r' e j
 |other{r r':Row}{e j:Nat}:PN .other r r' e j
end
theorem RdA.hn{ks:List CK}{r r':Row}(h:RdA ks r r'):r.n=r'.n:=by cases h with|mk hn _=>exact hn
theorem Rds.alike{ok:Nat->Prop}{w:World}{ks:List CK}{r r':Row}{b off:Nat}(h:Rds ok w ks r b off)(ha:RdA ks r r'):Rds ok w ks r' b off:=by
 refine Rds.rec (ok:=ok) (w:=w) (motive_1:=fun ks r b off _=>∀r',RdA ks r r'->Rds ok w ks r' b off) (motive_2:=fun k r e j v _=>∀r',PN k r r' e j->CellR ok w k r' e j v) ?_ ?_ ?_ ?_ ?_ ?_ h r' ha
 ·intro ks r b off v h1 _ ih r' ha;cases ha with
  |mk hn h=>exact .mk v (fun e j k he hk=>h1 e j k (by omega) hk) (fun e j k he hk=>ih e j k (by omega) hk r' (h e j k (by omega) hk))
 ·intro k r e j r' ha;cases ha with
  |int h=>rw[h];exact .int
 ·intro r e j r' ha;cases ha with
  |bool h=>rw[h];exact .bool
 ·intro r e j r' ha;cases ha with
  |str h=>rw[h];exact .str
 ·intro sub r e j a cap h1 r' ha;cases ha with
  |slice h=>exact .slice0 (h.hn.symm.trans h1)
 ·intro sub r e j b off n cap h1 h2 h3 _ ih r' ha;cases ha with
  |slice h=>exact .slice (h.hn.symm.trans h1) h2 h3 (ih _ h)
theorem RdA.refl(r:Row):∀ks,RdA ks r r:=by
 induction r with
 |nil=>exact fun ks=>.mk rfl fun e j k he _=>absurd he (Nat.not_lt_zero _)
 |mk n I B S R ih=>
  intro ks;refine .mk rfl fun e j k _ _=>?_;cases k with
  |int k=>exact .int rfl
  |bool=>exact .bool rfl
  |str=>exact .str rfl
  |slice sub=>exact .slice (ih e j sub)
  |other=>exact .other
def Ip:Nat->List CK->Row->Row
 |0,_,r=>r
 |d+1,ks,r=>.mk r.n (fun e j=>match ks[j]? with|some (.int _)=>bif Nat.blt e r.n then r.I e j else 0|_=>0) (fun e j=>match ks[j]? with|some .bool=>bif Nat.blt e r.n then r.B e j else false|_=>false)
  (fun e j=>match ks[j]? with|some .str=>bif Nat.blt e r.n then r.S e j else .empty|_=>.empty) (fun e j=>match ks[j]? with|some (.slice sub)=>bif Nat.blt e r.n then Ip d sub (r.R e j)else .nil|_=>.nil)
theorem BB:∀(d:Nat)(ks:List CK)(r:Row),RdA ks r (Ip d ks r)
 |0,ks,r=>RdA.refl r ks
 |d+1,ks,r=>.mk rfl fun e j k he hk=>by
  have hb:Nat.blt e r.n=true:=by rw[Nat.blt_eq];exact he
  cases k with
  |int k=>exact .int (by show _=(match ks[j]? with|some (.int _)=>bif Nat.blt e r.n then r.I e j else 0|_=>0);rw[hk,hb];rfl)
  |bool=>exact .bool (by show _=(match ks[j]? with|some .bool=>bif Nat.blt e r.n then r.B e j else false|_=>false);rw[hk,hb];rfl)
  |str=>exact .str (by show _=(match ks[j]? with|some .str=>bif Nat.blt e r.n then r.S e j else .empty|_=>.empty);rw[hk,hb];rfl)
  |slice sub=>
   refine .slice ?_;show RdA sub (r.R e j) (match ks[j]? with|some (.slice sub)=>bif Nat.blt e r.n then Ip d sub (r.R e j)else .nil|_=>.nil)
   rw[hk,hb];exact BB d sub (r.R e j)
  |other=>exact .other
def dK:Nat->List CK->Bool
 |0,_=>false
 |d+1,ks=>ks.all fun k=>match k with|.slice s=>dK d s|_=>true
theorem Eo:∀(d:Nat)(ks:List CK)(r r':Row),dK d ks=true->RdA ks r r'->Ip d ks r=Ip d ks r'
 |0,_,_,_,h,_=>by cases h
 |d+1,ks,r,r',hd,ha=>by
  cases ha with
  |mk hn hh=>
   have e1:∀e,e<r.n->Nat.blt e r.n=true:=fun e he=>by rw[Nat.blt_eq];exact he
   have e0:∀e,¬e<r.n->Nat.blt e r.n=false:=fun e he=>by
    cases hb:Nat.blt e r.n
    ·rfl
    ·rw[Nat.blt_eq]at hb;exact absurd hb he
   show Row.mk r.n _ _ _ _=Row.mk r'.n _ _ _ _;rw[<-hn]
   congr 1
   ·funext e j;cases hk:ks[j]? with
    |none=>rfl
    |some k=>cases k with
     |int k=>
      show(bif Nat.blt e r.n then r.I e j else 0)=(bif Nat.blt e r.n then r'.I e j else 0);by_cases he:e<r.n
      ·cases hh e j _ he hk with|int h=>rw[h]
      ·rw[e0 e he];rfl
     |_=>rfl
   ·funext e j;cases hk:ks[j]? with
    |none=>rfl
    |some k=>cases k with
     |bool=>
      show(bif Nat.blt e r.n then r.B e j else false)=(bif Nat.blt e r.n then r'.B e j else false);by_cases he:e<r.n
      ·cases hh e j _ he hk with|bool h=>rw[h]
      ·rw[e0 e he];rfl
     |_=>rfl
   ·funext e j;cases hk:ks[j]? with
    |none=>rfl
    |some k=>cases k with
     |str=>
      show(bif Nat.blt e r.n then r.S e j else .empty)=(bif Nat.blt e r.n then r'.S e j else .empty);by_cases he:e<r.n
      ·cases hh e j _ he hk with|str h=>rw[h]
      ·rw[e0 e he];rfl
     |_=>rfl
   ·funext e j;cases hk:ks[j]? with
    |none=>rfl
    |some k=>cases k with
     |slice sub=>
      show(bif Nat.blt e r.n then Ip d sub (r.R e j)else .nil)=(bif Nat.blt e r.n then Ip d sub (r'.R e j)else .nil);by_cases he:e<r.n
      ·cases hh e j _ he hk with
       |slice h=>rw[Eo d sub _ _ (List.all_eq_true.1 hd _ (List.mem_of_getElem? hk)) h]
      ·rw[e0 e he];rfl
     |_=>rfl
def Pz:D->D
 |.slice ks r=>.slice ks (Ip 5 ks r)
 |d=>d
def mW:D->D
 |.agg ds=>.agg (ds.map Pz)
 |d=>Pz d
def MemAl(m m':List (Option Blk)):Prop:=m.length=m'.length∧∀id,id<m.length->∃ks r r',m[id]? =some (some (.row ks false r))∧m'[id]? =some (some (.row ks false r'))∧RdA ks r r'
theorem MemAl.nil:MemAl [] []:=⟨rfl,fun id h=>absurd h (Nat.not_lt_zero _)⟩
theorem MemAl.snoc{m m':List (Option Blk)}(h:MemAl m m'){ks:List CK}{r r':Row}(ha:RdA ks r r'):MemAl (m++[some (.row ks false r)]) (m'++[some (.row ks false r')]):=by
 refine⟨by simp[h.1],fun id hid=>?_⟩;by_cases hlt:id<m.length
 ·obtain⟨Ha,r1,r1',a1,a2,a3⟩:=h.2 id hlt;exact⟨Ha,r1,r1',by rw[AQ hlt];exact a1,by rw[AQ (by rw[<-h.1];exact hlt)];exact a2,a3⟩
 ·have:id=m.length:=by simp at hid;omega
  subst this;exact⟨ks,r,r',by simp,by rw[h.1];simp,ha⟩
theorem GH{m m' m1:List (Option Blk)}{d:D}{v:Value}(h:Ba false m d=some (v,m1))(ha:MemAl m m'):∃m1',Ba false m' (Pz d)=some (v,m1')∧MemAl m1 m1':=by
 cases d with
 |v x=>
  simp only[Ba]at h;split at h
  ·rename_i hx;cases h;exact⟨m',by simp[Pz,Ba,hx],ha⟩
  ·cases h
 |slice ks r=>
  simp only[Ba]at h;cases h;refine⟨_,by simp only[Pz,Ba];rw[<-ha.1,(BB 5 ks r).hn.symm],ha.snoc (BB 5 ks r)⟩
 |agg ds=>simp[Ba]at h
 |ptr ks r=>
  simp only[Ba]at h;cases h;exact⟨_,by simp only[Pz,Ba];rw[<-ha.1],ha.snoc (RdA.refl r ks)⟩
 |err b=>
  simp only[Ba]at h;cases h;exact⟨m',rfl,ha⟩
theorem OY:∀{ds:List D}{m m' m1:List (Option Blk)}{vs:List Value},Bl false ds m=some (vs,m1)->MemAl m m'->∃m1',Bl false (ds.map Pz) m'=some (vs,m1')∧MemAl m1 m1'
 |[],m,m',m1,vs,h,ha=>by cases h;exact⟨m',rfl,ha⟩
 |d::ds,m,m',m1,vs,h,ha=>by
  simp only[Bl]at h;split at h
  ·rename_i x m2 h1;split at h
   ·rename_i xs m3 h2;cases h;obtain⟨n2,k1,k2⟩:=GH h1 ha;obtain⟨n3,k3,k4⟩:=OY h2 k2;exact⟨n3,by simp[Bl,k1,k3],k4⟩
   ·cases h
  ·cases h
theorem lV{m m' m1:List (Option Blk)}{d:D}{v:Value}(h:fromD false m d=some (v,m1))(ha:MemAl m m'):∃m1',fromD false m' (mW d)=some (v,m1')∧MemAl m1 m1':=by
 cases d with
 |agg ds=>
  simp only[fromD]at h;split at h
  ·rename_i xs m2 h1;cases h;obtain⟨n2,k1,k2⟩:=OY h1 ha;exact⟨n2,by simp[mW,fromD,k1],k2⟩
  ·cases h
 |v x=>exact GH (d:=.v x) (m:=m) (m1:=m1) (v:=v) h ha
 |slice ks r=>exact GH (d:=.slice ks r) (m:=m) (m1:=m1) (v:=v) h ha
 |ptr ks r=>exact GH (d:=.ptr ks r) (m:=m) (m1:=m1) (v:=v) h ha
 |err b=>exact GH (d:=.err b) (m:=m) (m1:=m1) (v:=v) h ha
theorem Ql:∀{ds:List D}{m m' m1:List (Option Blk)}{vs:List Value},Az false ds m=some (vs,m1)->MemAl m m'->∃m1',Az false (ds.map mW) m'=some (vs,m1')∧MemAl m1 m1'
 |[],m,m',m1,vs,h,ha=>by cases h;exact⟨m',rfl,ha⟩
 |d::ds,m,m',m1,vs,h,ha=>by
  simp only[Az]at h;split at h
  ·rename_i x m2 h1;split at h
   ·rename_i xs m3 h2;cases h;obtain⟨n2,k1,k2⟩:=lV h1 ha;obtain⟨n3,k3,k4⟩:=Ql h2 k2;exact⟨n3,by simp[Az,k1,k3],k4⟩
   ·cases h
  ·cases h
theorem MemAl.memR{m m':List (Option Blk)}{ρ:Map}{B:Nat}{w:World}(ha:MemAl m m')(h:MemR m ρ B w):MemR m' ρ B w:=by
 have hn:NonOwn m':=fun id b hb=>by
  obtain⟨ks,r,r',a1,a2,a3⟩:=ha.2 id (by rw[ha.1];exact(A0.1 hb).1);rw[a2]at hb;cases hb;rfl
 refine⟨fun id b hb=>?_,fun id hid=>h.dead id fun b hb=>?_,fun i j b ⟨L,blk,h1,h2,h3,h4⟩ _=>?_⟩
 ·obtain⟨ks,r,r',a1,a2,a3⟩:=ha.2 id (by rw[ha.1];exact(A0.1 hb).1);rw[a2]at hb;cases hb;obtain⟨L,hL,q1,q2,q3,q4,q5⟩:=h.blk id _ a1;refine⟨L,hL,q1.trans a3.hn,q2,fun hf=>(by cases hf),fun h0=>?_,q5⟩;obtain⟨p1,p2⟩:=q4 (by rw[a3.hn];exact h0);have p3:Rds (okB m' ρ w) w ks r L.b L.off:=p2.mono (fun b hb=>⟨hn.ok hb.1,rfl⟩) rfl;exact⟨fun _=>hn.ok (p1 rfl).1,p3.alike a3⟩
 ·obtain⟨ks,r,r',a1,a2,a3⟩:=ha.2 id (A0.1 hb).1;exact hid _ a2
 ·rw[hn i blk h2]at h3;cases h3
theorem DenW.canon{P:Program}{W:World->Prop}{f:FuncId}{F:FD}(h:DenW P W f F):DenW P W f (fun ds=>F (ds.map mW)):=fun wb hw ds rs hF w hb args vs mem ρ hfr hm hl hv=>by
 obtain⟨m1',k1,k2⟩:=Ql hfr MemAl.nil;exact h wb hw (ds.map mW) rs hF w hb args vs m1' ρ k1 (k2.memR hm) hl (fun i x c hx hc=>by rw[<-k2.1];exact hv i x c hx hc)
end Go.Ev
namespace Go.Ev
abbrev S_(b o n:Nat):Value:=.slice (some ⟨b,o,some 0⟩) n 0
theorem BC{A:Type}{c:A->Bool}{P:A->Prop}{i:∀x,Decidable (P x)}(h:c=fun x=>@decide (P x) (i x)){x:A}:c x=true↔P x:=by rw[h];exact decide_eq_true_iff
structure ScanL(ι:Type) where
 f:FuncId
 id:Nat
 lv:List Tmp
 lx:List Tmp
 p:Ed
 dat:List It->Option ι
 S:ι->Nat->List It
 len:ι->Nat
 cnd:ι->Bool
 bad:ι->Nat->Bool
 Kb:ι->Nat->(X->St->OD)->OD
 Ke:ι->(X->St->OD)->OD
def FU(p:Nat->Bool):Nat->Nat->Nat
 |0,j=>j
 |m+1,j=>bif p j then j else FU p m (j+1)
theorem Po(p:Nat->Bool):∀m j,Ap p m j=true->FU p m j<j+m∧p (FU p m j)=true∧∀i,j<=i->i<FU p m j->p i=false
 |0,j,h=>by cases h
 |m+1,j,h=>by
  unfold FU;cases hp:p j
  ·simp only[Ap,hp,Bool.false_or]at h;obtain⟨h1,h2,h3⟩:=Po p m (j+1) h;refine⟨by simp only[cond_false];omega,h2,fun i hi hlt=>?_⟩;by_cases e:i=j
   ·rw[e];exact hp
   ·exact h3 i (by omega) hlt
  ·exact⟨by simp only[cond_true];omega,hp,fun i hi hlt=>by simp only[cond_true]at hlt;omega⟩
def ScanL.G{ι:Type}(s:ScanL ι)(its:List It)(k:X->St->OD):OD:=match s.dat its with
 |some x=>br (s.cnd x) (br (Ap (s.bad x) (s.len x) 0) (s.Kb x (FU (s.bad x) (s.len x) 0) k) (s.Ke x k)) none
 |none=>none
def ScanL.C{ι:Type}(s:ScanL ι):LoopC:=⟨s.f,s.id,s.lv,s.lx,s.p,s.G⟩
noncomputable abbrev Ar(C:Cx)(f:FuncId)(id q:Nat):St->(X->St->OD)->OD:=Au C f true (inl C (q+4)) (Bc C.P f id)
theorem XU{f:St->(X->St->OD)->OD}{lv:List Tmp}{lx:Option (List Tmp)}{S:Nat->St}{len:Nat}{bad:Nat->Bool}{Kb:Nat->(X->St->OD)->OD}{Ke:(X->St->OD)->OD}
  (hr:∀j,j<len->∀R K,f (S j) (BI lv lx R K)=br (bad j) (Kb j K) (R (S (j+1)))) (he:∀R K,f (S len) (BI lv lx R K)=Ke K) (K:X->St->OD):
  ∀(m j:Nat),j+m=len->∀N,m<N->rounds lv lx f N (S j) K=br (Ap bad m j) (Kb (FU bad m j) K) (Ke K)
 |0,j,hj,N,hN=>by
  obtain⟨N,rfl⟩:∃N',N=N'+1:=⟨N-1,by omega⟩;have:j=len:=by omega
  subst this;simp only[rounds,Ap];exact he _ K
 |m+1,j,hj,N,hN=>by
  obtain⟨N,rfl⟩:∃N',N=N'+1:=⟨N-1,by omega⟩;simp only[rounds,Ap,FU];rw[hr j (by omega),XU hr he K m (j+1) (by omega) N (by omega)];cases bad j<;>rfl
theorem ScanL.ok{ι:Type}{C:Cx}(s:ScanL ι)(h1:Nat.beq ((En C.P s.f).filter fun b=>Nat.beq (Aj b) s.id).length 1=true)
  (hS:∀its x,s.dat its=some x->s.cnd x=true->bst s.p its=bst s.p (s.S x 0))
  (hlen:∀x,s.cnd x=true->s.len x<C.N)
  (hr:∀q x j,s.cnd x=true->j<s.len x->∀R K,Ar C s.f s.id q (bst s.p (s.S x j)) (BI s.lv (some s.lx) R K)=br (s.bad x j) (s.Kb x j K) (R (bst s.p (s.S x (j+1)))))
  (he:∀q x,s.cnd x=true->∀R K,Ar C s.f s.id q (bst s.p (s.S x (s.len x))) (BI s.lv (some s.lx) R K)=s.Ke x K):Ai C s.C:=⟨h1,fun q its k rr h=>by
 change s.G its k=some rr at h;unfold ScanL.G at h;split at h
 ·rename_i x hx;rcases CO h with⟨hc,h2⟩|⟨_,h2⟩
  ·rw[<-h2];show rounds s.lv (some s.lx) (Ar C s.f s.id q) C.N (bst s.p its) k=_;rw[hS its x hx hc];exact XU (S:=fun j=>bst s.p (s.S x j)) (hr q x · hc) (he q x hc) k (s.len x) 0 (by omega) C.N (hlen x hc)
  ·cases h2
 ·cases h⟩
structure RunL(ι β:Type) where
 f:FuncId
 id:Nat
 lv:List Tmp
 lx:List Tmp
 p:Ed
 dat:List It->Option ι
 S:ι->Nat->β->List It
 len:ι->Nat
 cnd:ι->Bool
 ini:ι->β
 stop:ι->Nat->β->Bool
 nx:ι->Nat->β->β
 Kb:ι->Nat->β->(X->St->OD)->OD
 Ke:ι->β->(X->St->OD)->OD
def CY{β:Type}(stop:Nat->β->Bool)(nx:Nat->β->β):Nat->Nat->β->Bool×Nat×β
 |0,j,a=>(false,j,a)
 |m+1,j,a=>bif stop j a then(true,j,a)else CY stop nx m (j+1) (nx j a)
theorem VU{β:Type}{stop:Nat->β->Bool}{nx:Nat->β->β}{m j:Nat}{a:β}(h:stop j a=false):CY stop nx (m+1) j a=CY stop nx m (j+1) (nx j a):=by
 show(bif stop j a then _ else _)=_;rw[h];rfl
theorem lQ{β:Type}{stop:Nat->β->Bool}{nx:Nat->β->β}{m j:Nat}{a:β}(h:stop j a=true):CY stop nx (m+1) j a=(true,j,a):=by
 show(bif stop j a then _ else _)=_;rw[h];rfl
theorem TS{β:Type}{stop:Nat->β->Bool}{nx:Nat->β->β}{Inv:Nat->β->Prop}{len:Nat}(hI:∀j a,j<len->Inv j a->stop j a=false->Inv (j+1) (nx j a)):∀{m j:Nat}{a:β},j+m=len->Inv j a->
  Inv (CY stop nx m j a).2.1 (CY stop nx m j a).2.2∧((CY stop nx m j a).1=true->(CY stop nx m j a).2.1<len∧stop (CY stop nx m j a).2.1 (CY stop nx m j a).2.2=true)∧((CY stop nx m j a).1=false->(CY stop nx m j a).2.1=len)
 |0,j,a,hj,h=>⟨h,fun h=>(by cases h),fun _=>hj⟩
 |m+1,j,a,hj,h=>by
  cases hs:stop j a
  ·rw[VU hs];exact TS hI (by omega) (hI j a (by omega) h hs)
  ·rw[lQ hs];exact⟨h,fun _=>⟨(by dsimp only;omega),hs⟩,fun h=>(by cases h)⟩
def RunL.G{ι β:Type}(s:RunL ι β)(its:List It)(k:X->St->OD):OD:=match s.dat its with
 |some x=>br (s.cnd x) (br (CY (s.stop x) (s.nx x) (s.len x) 0 (s.ini x)).1 (s.Kb x (CY (s.stop x) (s.nx x) (s.len x) 0 (s.ini x)).2.1 (CY (s.stop x) (s.nx x) (s.len x) 0 (s.ini x)).2.2 k) (s.Ke x (CY (s.stop x) (s.nx x) (s.len x) 0 (s.ini x)).2.2 k)) none
 |none=>none
def RunL.C{ι β:Type}(s:RunL ι β):LoopC:=⟨s.f,s.id,s.lv,s.lx,s.p,s.G⟩
theorem run_go{β:Type}{f:St->(X->St->OD)->OD}{lv:List Tmp}{lx:Option (List Tmp)}{S:Nat->β->St}{len:Nat}{stop:Nat->β->Bool}{nx:Nat->β->β}{Kb:Nat->β->(X->St->OD)->OD}{Ke:β->(X->St->OD)->OD}{Inv:Nat->β->Prop}
  (hI:∀j a,j<len->Inv j a->stop j a=false->Inv (j+1) (nx j a))
  (hr:∀j a,j<len->Inv j a->∀R K,f (S j a) (BI lv lx R K)=br (stop j a) (Kb j a K) (R (S (j+1) (nx j a)))) (he:∀a,Inv len a->∀R K,f (S len a) (BI lv lx R K)=Ke a K) (K:X->St->OD):
  ∀(m j:Nat)(a:β),j+m=len->Inv j a->∀N,m<N->rounds lv lx f N (S j a) K=br (CY stop nx m j a).1 (Kb (CY stop nx m j a).2.1 (CY stop nx m j a).2.2 K) (Ke (CY stop nx m j a).2.2 K)
 |0,j,a,hj,h,N,hN=>by
  obtain⟨N,rfl⟩:∃N',N=N'+1:=⟨N-1,by omega⟩;have:j=len:=by omega
  subst this;simp only[rounds,CY];exact he a h _ K
 |m+1,j,a,hj,h,N,hN=>by
  obtain⟨N,rfl⟩:∃N',N=N'+1:=⟨N-1,by omega⟩;rw[Df,hr j a (by omega) h];cases hs:stop j a
  ·rw[VU hs,Ac];exact run_go hI hr he K m (j+1) (nx j a) (by omega) (hI j a (by omega) h hs) N (by omega)
  ·rw[lQ hs];rfl
theorem RunL.ok{ι β:Type}{C:Cx}(s:RunL ι β)(Inv:ι->Nat->β->Prop)(h1:Nat.beq ((En C.P s.f).filter fun b=>Nat.beq (Aj b) s.id).length 1=true)
  (hS:∀its x,s.dat its=some x->s.cnd x=true->bst s.p its=bst s.p (s.S x 0 (s.ini x)))
  (hlen:∀x,s.cnd x=true->s.len x<C.N) (hI0:∀x,s.cnd x=true->Inv x 0 (s.ini x))
  (hI:∀x j a,s.cnd x=true->j<s.len x->Inv x j a->s.stop x j a=false->Inv x (j+1) (s.nx x j a))
  (hr:∀q x j a,s.cnd x=true->j<s.len x->Inv x j a->∀R K,Ar C s.f s.id q (bst s.p (s.S x j a)) (BI s.lv (some s.lx) R K)=br (s.stop x j a) (s.Kb x j a K) (R (bst s.p (s.S x (j+1) (s.nx x j a)))))
  (he:∀q x a,s.cnd x=true->Inv x (s.len x) a->∀R K,Ar C s.f s.id q (bst s.p (s.S x (s.len x) a)) (BI s.lv (some s.lx) R K)=s.Ke x a K):Ai C s.C:=⟨h1,fun q its k rr h=>by
 change s.G its k=some rr at h;unfold RunL.G at h;split at h
 ·rename_i x hx;rcases CO h with⟨hc,h2⟩|⟨_,h2⟩
  ·rw[<-h2];show rounds s.lv (some s.lx) (Ar C s.f s.id q) C.N (bst s.p its) k=_;rw[hS its x hx hc];exact run_go (S:=fun j a=>bst s.p (s.S x j a)) (Inv:=Inv x) (hI x · · hc) (fun j a hj hi R K=>hr q x j a hc hj hi R K) (fun a hi R K=>he q x a hc hi R K) k (s.len x) 0 (s.ini x) (by omega) (hI0 x hc) C.N (hlen x hc)
  ·cases h2
 ·cases h⟩
theorem gd(j n:Nat)(h:j<n):(decide (0<=(j:Int))&&decide ((j:Int)<(n:Int)))=true:=by simp only[A2,A3];omega
theorem Fe(j n:Nat)(h:j<n):decide ((j:Int)<(n:Int))=true:=A4 (by omega)
theorem F8(n:Nat):decide ((n:Int)<(n:Int))=false:=AB (by omega)
theorem FH{j:Nat}(h:j<1000001):IntKind.i64.wrap ((j:Int)+1)=((j+1:Nat):Int):=by
 rw[wrap64 (by omega) (by omega)];omega
structure FoldL(ι β:Type) where
 f:FuncId
 id:Nat
 lv:List Tmp
 lx:List Tmp
 p:Ed
 dat:List It->Option ι
 S:ι->Nat->β->List It
 len:ι->Nat
 cnd:ι->Bool
 ini:ι->β
 nx:ι->Nat->β->β
 Ke:ι->β->(X->St->OD)->OD
def AP{β:Type}(nx:Nat->β->β):Nat->Nat->β->β
 |0,_,a=>a
 |m+1,j,a=>AP nx m (j+1) (nx j a)
def FoldL.G{ι β:Type}(s:FoldL ι β)(its:List It)(k:X->St->OD):OD:=match s.dat its with
 |some x=>br (s.cnd x) (s.Ke x (AP (s.nx x) (s.len x) 0 (s.ini x)) k) none
 |none=>none
def FoldL.C{ι β:Type}(s:FoldL ι β):LoopC:=⟨s.f,s.id,s.lv,s.lx,s.p,s.G⟩
theorem Xw{β:Type}{f:St->(X->St->OD)->OD}{lv:List Tmp}{lx:Option (List Tmp)}{S:Nat->β->St}{len:Nat}{nx:Nat->β->β}{Ke:β->(X->St->OD)->OD}{Inv:Nat->β->Prop}
  (hI:∀j a,j<len->Inv j a->Inv (j+1) (nx j a))
  (hr:∀j a,j<len->Inv j a->∀R K,f (S j a) (BI lv lx R K)=R (S (j+1) (nx j a))) (he:∀a,Inv len a->∀R K,f (S len a) (BI lv lx R K)=Ke a K) (K:X->St->OD):
  ∀(m j:Nat)(a:β),j+m=len->Inv j a->∀N,m<N->rounds lv lx f N (S j a) K=Ke (AP nx m j a) K
 |0,j,a,hj,h,N,hN=>by
  obtain⟨N,rfl⟩:∃N',N=N'+1:=⟨N-1,by omega⟩;have:j=len:=by omega
  subst this;simp only[rounds,AP];exact he a h _ K
 |m+1,j,a,hj,h,N,hN=>by
  obtain⟨N,rfl⟩:∃N',N=N'+1:=⟨N-1,by omega⟩;rw[Df,hr j a (by omega) h];exact Xw hI hr he K m (j+1) (nx j a) (by omega) (hI j a (by omega) h) N (by omega)
theorem FoldL.ok{ι β:Type}{C:Cx}(s:FoldL ι β)(Inv:ι->Nat->β->Prop)(h1:Nat.beq ((En C.P s.f).filter fun b=>Nat.beq (Aj b) s.id).length 1=true)
  (hS:∀its x,s.dat its=some x->s.cnd x=true->bst s.p its=bst s.p (s.S x 0 (s.ini x)))
  (hlen:∀x,s.cnd x=true->s.len x<C.N) (hI0:∀x,s.cnd x=true->Inv x 0 (s.ini x))
  (hI:∀x j a,s.cnd x=true->j<s.len x->Inv x j a->Inv x (j+1) (s.nx x j a))
  (hr:∀q x j a,s.cnd x=true->j<s.len x->Inv x j a->∀R K,Ar C s.f s.id q (bst s.p (s.S x j a)) (BI s.lv (some s.lx) R K)=R (bst s.p (s.S x (j+1) (s.nx x j a))))
  (he:∀q x a,s.cnd x=true->Inv x (s.len x) a->∀R K,Ar C s.f s.id q (bst s.p (s.S x (s.len x) a)) (BI s.lv (some s.lx) R K)=s.Ke x a K):Ai C s.C:=⟨h1,fun q its k rr h=>by
 change s.G its k=some rr at h;unfold FoldL.G at h;split at h
 ·rename_i x hx;rcases CO h with⟨hc,h2⟩|⟨_,h2⟩
  ·rw[<-h2];show rounds s.lv (some s.lx) (Ar C s.f s.id q) C.N (bst s.p its) k=_;rw[hS its x hx hc];exact Xw (S:=fun j a=>bst s.p (s.S x j a)) (Inv:=Inv x) (hI x · · hc) (fun j a hj hi R K=>hr q x j a hc hj hi R K) (fun a hi R K=>he q x a hc hi R K) k (s.len x) 0 (s.ini x) (by omega) (hI0 x hc) C.N (hlen x hc)
  ·cases h2
 ·cases h⟩
end Go.Ev
namespace Go.Proofs.YtnljjjghpgdmoaaGreatDoor
open Go.Ev
def fns:List Nat:=[3,4,5,6,7,8,9,10,11,12,13,14,15,16,17,18,20,21,22,25,26,27,28,29,30,31,32,33,34,35,36,37,38,39,40,41,42,43,44,45,46,47,48,49,50,51,52,53,54,55,56,57,58,59,60,61,62,64,65,66,67,68,70,71,72,73,74,75,76,77,78,79,80,81,82,83,84,85,86,87,88,89,90,91,92,93,94,95,96,97,98,99,100,101,102,103,104,105,106,107,108,110,112,115,116,117,118,119,120,121,122,123,124,125,126,127,128,129,130,131,132,133,134,135,136,137,138,139,140,141,142,143,145,153,156,157,158,159,160,161,162,163,164,168,169,170,171,172,182,188,189,190,213,222]
theorem enter:∀(g:FuncId),fns.contains g=true->∀(args:Array Value)(w:World),(callFunc g args).run Tryz.prog w=.ok (.enter g args) w:=by
 intro g hg;simp only[fns,List.contains_cons,List.contains_nil,Bool.or_false,Bool.or_eq_true,beq_iff_eq]at hg;rcases hg with rfl|rfl|rfl|rfl|rfl|rfl|rfl|rfl|rfl|rfl|rfl|rfl|rfl|rfl|rfl|rfl|rfl|rfl|rfl|rfl|rfl|rfl|rfl|rfl|rfl|rfl|rfl|rfl|rfl|rfl|rfl|rfl|rfl|rfl|rfl|rfl|rfl|rfl|rfl|rfl|rfl|rfl|rfl|rfl|rfl|rfl|rfl|rfl|rfl|rfl|rfl|rfl|rfl|rfl|rfl|rfl|rfl|rfl|rfl|rfl|rfl|rfl|rfl|rfl|rfl|rfl|rfl|rfl|rfl|rfl|rfl|rfl|rfl|rfl|rfl|rfl|rfl|rfl|rfl|rfl|rfl|rfl|rfl|rfl|rfl|rfl|rfl|rfl|rfl|rfl|rfl|rfl|rfl|rfl|rfl|rfl|rfl|rfl|rfl|rfl|rfl|rfl|rfl|rfl|rfl|rfl|rfl|rfl|rfl|rfl|rfl|rfl|rfl|rfl|rfl|rfl|rfl|rfl|rfl|rfl|rfl|rfl|rfl|rfl|rfl|rfl|rfl|rfl|rfl|rfl|rfl|rfl|rfl|rfl|rfl|rfl|rfl|rfl|rfl|rfl|rfl|rfl|rfl|rfl|rfl|rfl|rfl|rfl|rfl|rfl|rfl|rfl|rfl|rfl
 ·exact Tryz.call3
 ·exact Tryz.call4
 ·exact Tryz.call5
 ·exact Tryz.call6
 ·exact Tryz.call7
 ·exact Tryz.call8
 ·exact Tryz.call9
 ·exact Tryz.call10
 ·exact Tryz.call11
 ·exact Tryz.call12
 ·exact Tryz.call13
 ·exact Tryz.call14
 ·exact Tryz.call15
 ·exact Tryz.call16
 ·exact Tryz.call17
 ·exact Tryz.call18
 ·exact Tryz.call20
 ·exact Tryz.call21
 ·exact Tryz.call22
 ·exact Tryz.call25
 ·exact Tryz.call26
 ·exact Tryz.call27
 ·exact Tryz.call28
 ·exact Tryz.call29
 ·exact Tryz.call30
 ·exact Tryz.call31
 ·exact Tryz.call32
 ·exact Tryz.call33
 ·exact Tryz.call34
 ·exact Tryz.call35
 ·exact Tryz.call36
 ·exact Tryz.call37
 ·exact Tryz.call38
 ·exact Tryz.call39
 ·exact Tryz.call40
 ·exact Tryz.call41
 ·exact Tryz.call42
 ·exact Tryz.call43
 ·exact Tryz.call44
 ·exact Tryz.call45
 ·exact Tryz.call46
 ·exact Tryz.call47
 ·exact Tryz.call48
 ·exact Tryz.call49
 ·exact Tryz.call50
 ·exact Tryz.call51
 ·exact Tryz.call52
 ·exact Tryz.call53
 ·exact Tryz.call54
 ·exact Tryz.call55
 ·exact Tryz.call56
 ·exact Tryz.call57
 ·exact Tryz.call58
 ·exact Tryz.call59
 ·exact Tryz.call60
 ·exact Tryz.call61
 ·exact Tryz.call62
 ·exact Tryz.call64
 ·exact Tryz.call65
 ·exact Tryz.call66
 ·exact Tryz.call67
 ·exact Tryz.call68
 ·exact Tryz.call70
 ·exact Tryz.call71
 ·exact Tryz.call72
 ·exact Tryz.call73
 ·exact Tryz.call74
 ·exact Tryz.call75
 ·exact Tryz.call76
 ·exact Tryz.call77
 ·exact Tryz.call78
 ·exact Tryz.call79
 ·exact Tryz.call80
 ·exact Tryz.call81
 ·exact Tryz.call82
 ·exact Tryz.call83
 ·exact Tryz.call84
 ·exact Tryz.call85
 ·exact Tryz.call86
 ·exact Tryz.call87
 ·exact Tryz.call88
 ·exact Tryz.call89
 ·exact Tryz.call90
 ·exact Tryz.call91
 ·exact Tryz.call92
 ·exact Tryz.call93
 ·exact Tryz.call94
 ·exact Tryz.call95
 ·exact Tryz.call96
 ·exact Tryz.call97
 ·exact Tryz.call98
 ·exact Tryz.call99
 ·exact Tryz.call100
 ·exact Tryz.call101
 ·exact Tryz.call102
 ·exact Tryz.call103
 ·exact Tryz.call104
 ·exact Tryz.call105
 ·exact Tryz.call106
 ·exact Tryz.call107
 ·exact Tryz.call108
 ·exact Tryz.call110
 ·exact Tryz.call112
 ·exact Tryz.call115
 ·exact Tryz.call116
 ·exact Tryz.call117
 ·exact Tryz.call118
 ·exact Tryz.call119
 ·exact Tryz.call120
 ·exact Tryz.call121
 ·exact Tryz.call122
 ·exact Tryz.call123
 ·exact Tryz.call124
 ·exact Tryz.call125
 ·exact Tryz.call126
 ·exact Tryz.call127
 ·exact Tryz.call128
 ·exact Tryz.call129
 ·exact Tryz.call130
 ·exact Tryz.call131
 ·exact Tryz.call132
 ·exact Tryz.call133
 ·exact Tryz.call134
 ·exact Tryz.call135
 ·exact Tryz.call136
 ·exact Tryz.call137
 ·exact Tryz.call138
 ·exact Tryz.call139
 ·exact Tryz.call140
 ·exact Tryz.call141
 ·exact Tryz.call142
 ·exact Tryz.call143
 ·exact Tryz.call145
 ·exact Tryz.call153
 ·exact Tryz.call156
 ·exact Tryz.call157
 ·exact Tryz.call158
 ·exact Tryz.call159
 ·exact Tryz.call160
 ·exact Tryz.call161
 ·exact Tryz.call162
 ·exact Tryz.call163
 ·exact Tryz.call164
 ·exact Tryz.call168
 ·exact Tryz.call169
 ·exact Tryz.call170
 ·exact Tryz.call171
 ·exact Tryz.call172
 ·exact Tryz.call182
 ·exact Tryz.call188
 ·exact Tryz.call189
 ·exact Tryz.call190
 ·exact Tryz.call213
 ·exact Tryz.call222
theorem mixed:Tryz.prog.follows .mixedOrders=true:=by kernel_rfl
def FW:List CK:=[.int .i64]
def Ls:List CK:=[.slice [.int .i64]]
set_option maxRecDepth 100000
def QX(v:Int):Bool:=decide (v<0)||decide (v>1000)
theorem La{α:Type}(b c:Bool)(x y:Option α):br (b||c) x y=br b x (br c x y):=by cases b<;>rfl
def Qr(lo hi v:Int):Bool:=decide (v<lo)||decide (v>=hi)
def yE:Ed:={τ:=[.v (.sl 0),.v (.c (.func (.func 82) #[] #[]))]++pu 5++[.v (.int .i64),.v (.int .i64)]++pu 10,saved:=[[.v (.sl 0),.v (.c (.func (.func 82) #[] #[]))]++pu 2++[.v (.c (.bool false)),.v (.sl 0),.v (.c (.func (.func 82) #[] #[]))]++pu 2,[]],mem:=[.row [.int .i64] false]}
structure A_l22 where
 n:Nat
 len:Int
 j:Int
 n_2:Nat
 n_3:Nat
 r:Row
def aB(its:List It):Option A_l22:=match its with|[.n n,.i len,.i j,.n n_2,.n n_3,.r r]=>some ⟨n,len,j,n_2,n_3,r⟩|_=>none
def bJ(x:A_l22):Bool:=x.j=0∧x.len=x.n∧x.n_2=x.n∧x.n_3=x.n∧x.n<=1000000
def c_l22_iff{x:A_l22}:=@BC _ bJ _ _ rfl x
def l22:ScanL A_l22:=⟨126,2,[0,1,7,8],[4],yE,aB,fun x j=>[.n x.n,.i (x.n:Int),.i (j:Int),.n x.n,.n x.n,.r x.r],fun x=>x.n,bJ,fun x j=>QX (x.r.I j 0),fun x j K=>K .ret ⟨us 4++[i64 ((j:Int))]++us 14,[[S_ 0 0 x.n,.func (.func 82) #[] #[]]++us 2++[.bool false,S_ 0 0 x.n,.func (.func 82) #[] #[]]++us 2,[]],[some (.row [.int .i64] false x.r)]⟩,fun x K=>K (.exit 0) ⟨us 19,[[S_ 0 0 x.n,.func (.func 82) #[] #[]]++us 2++[.bool false,S_ 0 0 x.n,.func (.func 82) #[] #[]]++us 2,[]],[some (.row [.int .i64] false x.r)]⟩⟩
def xR:Ed:={τ:=[.v (.sl 0),.v (.c (.func (.func 81) #[] #[]))]++pu 5++[.v (.int .i64),.v (.int .i64)]++pu 10,saved:=[[.v (.sl 0),.v (.c (.func (.func 81) #[] #[]))]++pu 2++[.v (.c (.bool false)),.v (.sl 0),.v (.c (.func (.func 81) #[] #[]))]++pu 2,[]],mem:=[.row [.slice [.int .i64]] false]}
structure A_l21 where
 n:Nat
 len:Int
 j:Int
 n_2:Nat
 n_3:Nat
 r:Row
def lH(its:List It):Option A_l21:=match its with|[.n n,.i len,.i j,.n n_2,.n n_3,.r r]=>some ⟨n,len,j,n_2,n_3,r⟩|_=>none
def jJ(x:A_l21):Bool:=x.j=0∧x.len=x.n∧x.n_2=x.n∧x.n_3=x.n∧x.n<=1000000
def c_l21_iff{x:A_l21}:=@BC _ jJ _ _ rfl x
def l21:ScanL A_l21:=⟨125,2,[0,1,7,8],[4],xR,lH,fun x j=>[.n x.n,.i (x.n:Int),.i (j:Int),.n x.n,.n x.n,.r x.r],fun x=>x.n,jJ,fun x j=>decide (((x.r.R j 0).n:Int)>10),fun x j K=>K .ret ⟨us 4++[i64 ((j:Int))]++us 14,[[S_ 0 0 x.n,.func (.func 81) #[] #[]]++us 2++[.bool false,S_ 0 0 x.n,.func (.func 81) #[] #[]]++us 2,[]],[some (.row [.slice [.int .i64]] false x.r)]⟩,fun x K=>K (.exit 0) ⟨us 19,[[S_ 0 0 x.n,.func (.func 81) #[] #[]]++us 2++[.bool false,S_ 0 0 x.n,.func (.func 81) #[] #[]]++us 2,[]],[some (.row [.slice [.int .i64]] false x.r)]⟩⟩
def Aag:Ed:={τ:=[.v (.sl 0),.v (.c (.func (.func 127) #[] #[.pointer (some ⟨1,0,some 0⟩),.pointer (some ⟨2,0,some 0⟩)]))]++pu 5++[.v (.int .i64),.v (.int .i64)]++pu 10,saved:=[[.v (.sl 0),.v (.c (.func (.func 127) #[] #[.pointer (some ⟨1,0,some 0⟩),.pointer (some ⟨2,0,some 0⟩)]))]++pu 2++[.v (.c (.bool false)),.v (.sl 0),.v (.c (.func (.func 127) #[] #[.pointer (some ⟨1,0,some 0⟩),.pointer (some ⟨2,0,some 0⟩)]))]++pu 2,[.v (.int .i64),.v (.int .i64),.v (.sl 0),.v (.c (.pointer (some ⟨1,0,some 0⟩))),.v (.c (.pointer (some ⟨2,0,some 0⟩)))]++pu 1++[.v (.c (.bool false)),.v (.sl 0),.v (.c (.func (.func 127) #[] #[.pointer (some ⟨1,0,some 0⟩),.pointer (some ⟨2,0,some 0⟩)]))]++pu 2,[]],mem:=[.row [.int .i64] false,.box [.v (.int .i64)],.box [.v (.int .i64)]]}
structure A_l41 where
 n:Nat
 len:Int
 j:Int
 n_2:Nat
 n_3:Nat
 lw:Int
 up:Int
 n_4:Nat
 n_5:Nat
 r:Row
 lb:Int
 hb:Int
def kR(its:List It):Option A_l41:=match its with|[.n n,.i len,.i j,.n n_2,.n n_3,.i lw,.i up,.n n_4,.n n_5,.r r,.i lb,.i hb]=>some ⟨n,len,j,n_2,n_3,lw,up,n_4,n_5,r,lb,hb⟩|_=>none
def fP(x:A_l41):Bool:=x.j=0∧x.len=x.n∧x.n_2=x.n∧x.n_3=x.n∧x.n_4=x.n∧x.n_5=x.n∧x.n<=1000000
def c_l41_iff{x:A_l41}:=@BC _ fP _ _ rfl x
def l41:ScanL A_l41:=⟨126,2,[0,1,7,8],[4],Aag,kR,fun x j=>[.n x.n,.i (x.n:Int),.i (j:Int),.n x.n,.n x.n,.i x.lw,.i x.up,.n x.n,.n x.n,.r x.r,.i x.lb,.i x.hb],fun x=>x.n,fP,fun x j=>Qr x.lb x.hb (x.r.I j 0),fun x j K=>K .ret ⟨us 4++[i64 ((j:Int))]++us 14,[[S_ 0 0 x.n,.func (.func 127) #[] #[.pointer (some ⟨1,0,some 0⟩),.pointer (some ⟨2,0,some 0⟩)]]++us 2++[.bool false,S_ 0 0 x.n,.func (.func 127) #[] #[.pointer (some ⟨1,0,some 0⟩),.pointer (some ⟨2,0,some 0⟩)]]++us 2,[i64 x.lw,i64 x.up,S_ 0 0 x.n,.pointer (some ⟨1,0,some 0⟩),.pointer (some ⟨2,0,some 0⟩)]++us 1++[.bool false,S_ 0 0 x.n,.func (.func 127) #[] #[.pointer (some ⟨1,0,some 0⟩),.pointer (some ⟨2,0,some 0⟩)]]++us 2,[]],[some (.row [.int .i64] false x.r),some (.box [i64 x.lb]),some (.box [i64 x.hb])]⟩,fun x K=>K (.exit 0) ⟨us 19,[[S_ 0 0 x.n,.func (.func 127) #[] #[.pointer (some ⟨1,0,some 0⟩),.pointer (some ⟨2,0,some 0⟩)]]++us 2++[.bool false,S_ 0 0 x.n,.func (.func 127) #[] #[.pointer (some ⟨1,0,some 0⟩),.pointer (some ⟨2,0,some 0⟩)]]++us 2,[i64 x.lw,i64 x.up,S_ 0 0 x.n,.pointer (some ⟨1,0,some 0⟩),.pointer (some ⟨2,0,some 0⟩)]++us 1++[.bool false,S_ 0 0 x.n,.func (.func 127) #[] #[.pointer (some ⟨1,0,some 0⟩),.pointer (some ⟨2,0,some 0⟩)]]++us 2,[]],[some (.row [.int .i64] false x.r),some (.box [i64 x.lb]),some (.box [i64 x.hb])]⟩⟩
def Afw:FD
 |[.slice [.slice [.int .i64]] r,.v (.func (.func 81) ⟨[]⟩ ⟨[]⟩)]=>some (r.n<=1000000,[.v (.bool (Ap (fun j=>decide (((r.R j 0).n:Int)>10)) r.n 0))])
 |_=>none
def Ad8:FD
 |[.slice [.int .i64] r,.v (.func (.func 82) ⟨[]⟩ ⟨[]⟩)]=>some (r.n<=1000000,[.v (.bool (Ap (fun j=>QX (r.I j 0)) r.n 0))])
 |_=>none
def Lr(r:Row):Bool:=Ap (fun j=>decide (((r.R j 0).n:Int)>10)) r.n 0
def Agm(r:Row):Bool:=Ap (fun j=>QX (r.I j 0)) r.n 0
def J7(r:Row)(j:Nat):Bool:=(((r.R j 0).n:Int) !=((r.R 0 0).n:Int))||Agm (r.R j 0)
def Aiu:Ed:={τ:=pu 1++[.v (.c (.pointer (some ⟨0,0,some 0⟩)))]++pu 1++[.v (.c (.func (.func 82) #[] #[]))]++pu 16++[.v (.sl 1),.v (.int .i64),.v (.int .i64)]++pu 17,saved:=[[]],mem:=[.box [.v (.sl 1)],.row [.slice [.int .i64]] false]}
structure A_l7 where
 n:Nat
 len:Int
 j:Int
 n_2:Nat
 r:Row
def Aet(its:List It):Option A_l7:=match its with|[.n n,.i len,.i j,.n n_2,.r r]=>some ⟨n,len,j,n_2,r⟩|_=>none
def Adn(x:A_l7):Bool:=x.j=0∧x.len=x.n∧x.n_2=x.n∧x.n<=6∧Lr x.r=false∧x.r.n=x.n
def c_l7_iff{x:A_l7}:=@BC _ Adn _ _ rfl x
def l7:ScanL A_l7:=⟨35,7,[1,3,20,21,22],[2],Aiu,Aet,fun x j=>[.n x.n,.i (x.n:Int),.i (j:Int),.n x.n,.r x.r],fun x=>x.n,Adn,fun x j=>J7 x.r j,fun x j K=>K .ret ⟨us 2++[i64 8]++us 37,[[]],[]⟩,fun x K=>K (.exit 0) ⟨us 40,[[]],[]⟩⟩
noncomputable def C23:Cx:=AU Tryz.prog fns [] [l22.C]
noncomputable def C20:Cx:=AU Tryz.prog fns [] [l21.C]
noncomputable def C24:Cx:=AU Tryz.prog fns [] [l41.C]
noncomputable def C7:Cx:=AU Tryz.prog fns [(80,Afw),(83,Ad8)] [l7.C]
theorem Aax(R:St->OD)(K:X->St->OD)(q n:Nat)(len j:Int)(n_2 n_3:Nat)(r:Row):Ar C23 126 2 q (bst yE [.n n,.i len,.i j,.n n_2,.n n_3,.r r]) (BI [0,1,7,8] (some [4]) R K)=br (j<len) (br (0<=j&&j<(n:Int)) (br (r.I (0+j.toNat) 0<0) (K .ret ⟨us 4++[i64 j]++us 14,[[S_ 0 0 n_2,.func (.func 82) #[] #[]]++us 2++[.bool false,S_ 0 0 n_3,.func (.func 82) #[] #[]]++us 2,[]],[some (.row [.int .i64] false r)]⟩) (br (r.I (0+j.toNat) 0>1000) (K .ret ⟨us 4++[i64 j]++us 14,[[S_ 0 0 n_2,.func (.func 82) #[] #[]]++us 2++[.bool false,S_ 0 0 n_3,.func (.func 82) #[] #[]]++us 2,[]],[some (.row [.int .i64] false r)]⟩) (R ⟨[S_ 0 0 n,.func (.func 82) #[] #[]]++us 5++[i64 len,i64 (IntKind.i64.wrap (j+1))]++us 10,[[S_ 0 0 n_2,.func (.func 82) #[] #[]]++us 2++[.bool false,S_ 0 0 n_3,.func (.func 82) #[] #[]]++us 2,[]],[some (.row [.int .i64] false r)]⟩))) none) (K (.exit 0) ⟨us 19,[[S_ 0 0 n_2,.func (.func 82) #[] #[]]++us 2++[.bool false,S_ 0 0 n_3,.func (.func 82) #[] #[]]++us 2,[]],[some (.row [.int .i64] false r)]⟩):=by kernel_rfl
theorem Aae(R:St->OD)(K:X->St->OD)(q n:Nat)(len j:Int)(n_2 n_3:Nat)(r:Row):Ar C20 125 2 q (bst xR [.n n,.i len,.i j,.n n_2,.n n_3,.r r]) (BI [0,1,7,8] (some [4]) R K)=br (j<len) (br (0<=j&&j<(n:Int)) (br ((↑(r.R (0+j.toNat) 0).n:Int)>10) (K .ret ⟨us 4++[i64 j]++us 14,[[S_ 0 0 n_2,.func (.func 81) #[] #[]]++us 2++[.bool false,S_ 0 0 n_3,.func (.func 81) #[] #[]]++us 2,[]],[some (.row [.slice [.int .i64]] false r)]⟩) (R ⟨[S_ 0 0 n,.func (.func 81) #[] #[]]++us 5++[i64 len,i64 (IntKind.i64.wrap (j+1))]++us 10,[[S_ 0 0 n_2,.func (.func 81) #[] #[]]++us 2++[.bool false,S_ 0 0 n_3,.func (.func 81) #[] #[]]++us 2,[]],[some (.row [.slice [.int .i64]] false r)]⟩)) none) (K (.exit 0) ⟨us 19,[[S_ 0 0 n_2,.func (.func 81) #[] #[]]++us 2++[.bool false,S_ 0 0 n_3,.func (.func 81) #[] #[]]++us 2,[]],[some (.row [.slice [.int .i64]] false r)]⟩):=by kernel_rfl
theorem zX(R:St->OD)(K:X->St->OD)(q n:Nat)(len j:Int)(n_2 n_3:Nat)(lw up:Int)(n_4 n_5:Nat)(r:Row)(lb hb:Int):Ar C24 126 2 q (bst Aag [.n n,.i len,.i j,.n n_2,.n n_3,.i lw,.i up,.n n_4,.n n_5,.r r,.i lb,.i hb]) (BI [0,1,7,8] (some [4]) R K)=br (j<len) (br (0<=j&&j<(n:Int)) (br (r.I (0+j.toNat) 0<lb) (K .ret ⟨us 4++[i64 j]++us 14,[[S_ 0 0 n_2,.func (.func 127) #[] #[.pointer (some ⟨1,0,some 0⟩),.pointer (some ⟨2,0,some 0⟩)]]++us 2++[.bool false,S_ 0 0 n_3,.func (.func 127) #[] #[.pointer (some ⟨1,0,some 0⟩),.pointer (some ⟨2,0,some 0⟩)]]++us 2,[i64 lw,i64 up,S_ 0 0 n_4,.pointer (some ⟨1,0,some 0⟩),.pointer (some ⟨2,0,some 0⟩)]++us 1++[.bool false,S_ 0 0 n_5,.func (.func 127) #[] #[.pointer (some ⟨1,0,some 0⟩),.pointer (some ⟨2,0,some 0⟩)]]++us 2,[]],[some (.row [.int .i64] false r),some (.box [i64 lb]),some (.box [i64 hb])]⟩) (br (r.I (0+j.toNat) 0>=hb) (K .ret ⟨us 4++[i64 j]++us 14,[[S_ 0 0 n_2,.func (.func 127) #[] #[.pointer (some ⟨1,0,some 0⟩),.pointer (some ⟨2,0,some 0⟩)]]++us 2++[.bool false,S_ 0 0 n_3,.func (.func 127) #[] #[.pointer (some ⟨1,0,some 0⟩),.pointer (some ⟨2,0,some 0⟩)]]++us 2,[i64 lw,i64 up,S_ 0 0 n_4,.pointer (some ⟨1,0,some 0⟩),.pointer (some ⟨2,0,some 0⟩)]++us 1++[.bool false,S_ 0 0 n_5,.func (.func 127) #[] #[.pointer (some ⟨1,0,some 0⟩),.pointer (some ⟨2,0,some 0⟩)]]++us 2,[]],[some (.row [.int .i64] false r),some (.box [i64 lb]),some (.box [i64 hb])]⟩) (R ⟨[S_ 0 0 n,.func (.func 127) #[] #[.pointer (some ⟨1,0,some 0⟩),.pointer (some ⟨2,0,some 0⟩)]]++us 5++[i64 len,i64 (IntKind.i64.wrap (j+1))]++us 10,[[S_ 0 0 n_2,.func (.func 127) #[] #[.pointer (some ⟨1,0,some 0⟩),.pointer (some ⟨2,0,some 0⟩)]]++us 2++[.bool false,S_ 0 0 n_3,.func (.func 127) #[] #[.pointer (some ⟨1,0,some 0⟩),.pointer (some ⟨2,0,some 0⟩)]]++us 2,[i64 lw,i64 up,S_ 0 0 n_4,.pointer (some ⟨1,0,some 0⟩),.pointer (some ⟨2,0,some 0⟩)]++us 1++[.bool false,S_ 0 0 n_5,.func (.func 127) #[] #[.pointer (some ⟨1,0,some 0⟩),.pointer (some ⟨2,0,some 0⟩)]]++us 2,[]],[some (.row [.int .i64] false r),some (.box [i64 lb]),some (.box [i64 hb])]⟩))) none) (K (.exit 0) ⟨us 19,[[S_ 0 0 n_2,.func (.func 127) #[] #[.pointer (some ⟨1,0,some 0⟩),.pointer (some ⟨2,0,some 0⟩)]]++us 2++[.bool false,S_ 0 0 n_3,.func (.func 127) #[] #[.pointer (some ⟨1,0,some 0⟩),.pointer (some ⟨2,0,some 0⟩)]]++us 2,[i64 lw,i64 up,S_ 0 0 n_4,.pointer (some ⟨1,0,some 0⟩),.pointer (some ⟨2,0,some 0⟩)]++us 1++[.bool false,S_ 0 0 n_5,.func (.func 127) #[] #[.pointer (some ⟨1,0,some 0⟩),.pointer (some ⟨2,0,some 0⟩)]]++us 2,[]],[some (.row [.int .i64] false r),some (.box [i64 lb]),some (.box [i64 hb])]⟩):=by kernel_rfl
theorem Aie(R:St->OD)(K:X->St->OD)(q n:Nat)(len j:Int)(n_2:Nat)(r:Row):Ar C7 35 7 q (bst Aiu [.n n,.i len,.i j,.n n_2,.r r]) (BI [1,3,20,21,22] (some [2]) R K)=br (j<len) (br (0<=j&&j<(n:Int)) (br ((0:Int)<=0&&0<(n_2:Int)) (br ((↑(r.R (0+j.toNat) 0).n:Int) !=(↑(r.R 0 0).n:Int)) (K .ret ⟨us 2++[i64 8]++us 37,[[]],[]⟩) (br ((w_ (r.R (0+j.toNat) 0) 0 (r.R (0+j.toNat) 0).n).n<=1000000) (br (Ap (fun j_1=>QX ((w_ (r.R (0+j.toNat) 0) 0 (r.R (0+j.toNat) 0).n).I j_1 0)) (w_ (r.R (0+j.toNat) 0) 0 (r.R (0+j.toNat) 0).n).n 0) (K .ret ⟨us 2++[i64 8]++us 37,[[]],[]⟩) (R ⟨us 1++[.pointer (some ⟨0,0,some 0⟩)]++us 1++[.func (.func 82) #[] #[]]++us 16++[S_ 1 0 n,i64 len,i64 (IntKind.i64.wrap (j+1))]++us 17,[[]],[some (.box [S_ 1 0 n_2]),some (.row [.slice [.int .i64]] false r)]⟩)) none)) none) none) (K (.exit 0) ⟨us 40,[[]],[]⟩):=by kernel_rfl
theorem u23(r:Row):BZ C23 6 83 [.slice FW r,.v (.func (.func 82) #[] #[])]=br (bJ (⟨r.n,(r.n:Int),0,r.n,r.n,r⟩:A_l22)) (br (Ap (fun j=>QX (r.I j 0)) r.n 0) (some [.v (.bool ((↑(FU (l22.bad (⟨r.n,(r.n:Int),0,r.n,r.n,r⟩:A_l22)) (l22.len (⟨r.n,(r.n:Int),0,r.n,r.n,r⟩:A_l22)) 0):Int)>=0))]) (some [.v (.bool (-1>=0))])) (none):=by kernel_rfl
theorem u20(r:Row):BZ C20 6 80 [.slice Ls r,.v (.func (.func 81) #[] #[])]=br (jJ (⟨r.n,(r.n:Int),0,r.n,r.n,r⟩:A_l21)) (br (Ap (fun j=>decide ((↑(r.R j 0).n:Int)>10)) r.n 0) (some [.v (.bool ((↑(FU (l21.bad (⟨r.n,(r.n:Int),0,r.n,r.n,r⟩:A_l21)) (l21.len (⟨r.n,(r.n:Int),0,r.n,r.n,r⟩:A_l21)) 0):Int)>=0))]) (some [.v (.bool (-1>=0))])) (none):=by kernel_rfl
theorem u24(lo hi:Int)(r:Row):BZ C24 6 84 [.v (i64 lo),.v (i64 hi),.slice FW r]=br (fP (⟨r.n,(r.n:Int),0,r.n,r.n,lo,hi,r.n,r.n,r,lo,hi⟩:A_l41)) (br (Ap (fun j=>Qr lo hi (r.I j 0)) r.n 0) (some [.v (.bool (!decide ((↑(FU (l41.bad (⟨r.n,(r.n:Int),0,r.n,r.n,lo,hi,r.n,r.n,r,lo,hi⟩:A_l41)) (l41.len (⟨r.n,(r.n:Int),0,r.n,r.n,lo,hi,r.n,r.n,r,lo,hi⟩:A_l41)) 0):Int)>=0)))]) (some [.v (.bool (!decide (-1>=0)))])) (none):=by kernel_rfl
theorem u7(r:Row):BZ C7 6 35 [.agg [.slice Ls r]]=br ((r.n:Int)>6) (some [.v (i64 4)]) (br ((w_ r 0 r.n).n<=1000000) (br (Ap (fun j=>decide ((↑((w_ r 0 r.n).R j 0).n:Int)>10)) (w_ r 0 r.n).n 0) (some [.v (i64 4)]) (br ((r.n:Int)==0) (some [.v (i64 8)]) (br (Adn (⟨r.n,(r.n:Int),0,r.n,r⟩:A_l7)) (br (Ap (fun j=>J7 r j) r.n 0) (some [.v (i64 8)]) (some [.v (i64 0)])) none))) none):=by kernel_rfl
theorem Agn:Ai C23 l22.C:=l22.ok (by kernel_rfl)
 (fun its x h hc=>by
  replace h:aB its=some x:=h;unfold aB at h;split at h
  ·cases h;obtain⟨h1,h2,h3,h4,h5⟩:=c_l22_iff.1 hc;dsimp only at h1 h2 h3 h4;subst h1 h2 h3 h4;rfl
  ·cases h)
 (fun x hc=>by have:=c_l22_iff.1 hc;show x.n<18446744073709551616;omega)
 (fun q ⟨n,len0,j0,n_2,n_3,r⟩ j hc hi R K=>by
  obtain⟨h1,h2,h3,h4,h5⟩:=c_l22_iff.1 hc;dsimp only at*
  replace hi:j<n:=hi;refine(Aax R K q n ((n:Int)) ((j:Int)) n n r).trans ?_;rw[A9,AE j,gd j n hi,Fe j n hi,FH (by omega),Aa,Aa];exact(La _ _ _ _).symm)
 (fun q ⟨n,len0,j0,n_2,n_3,r⟩ hc R K=>by
  obtain⟨h1,h2,h3,h4,h5⟩:=c_l22_iff.1 hc;dsimp only at*
  refine(Aax R K q n ((n:Int)) ((n:Int)) n n r).trans ?_;rw[F8 n];rfl)
theorem Adu:Ai C20 l21.C:=l21.ok (by kernel_rfl)
 (fun its x h hc=>by
  replace h:lH its=some x:=h;unfold lH at h;split at h
  ·cases h;obtain⟨h1,h2,h3,h4,h5⟩:=c_l21_iff.1 hc;dsimp only at h1 h2 h3 h4;subst h1 h2 h3 h4;rfl
  ·cases h)
 (fun x hc=>by have:=c_l21_iff.1 hc;show x.n<18446744073709551616;omega)
 (fun q ⟨n,len0,j0,n_2,n_3,r⟩ j hc hi R K=>by
  obtain⟨h1,h2,h3,h4,h5⟩:=c_l21_iff.1 hc;dsimp only at*
  replace hi:j<n:=hi;refine(Aae R K q n ((n:Int)) ((j:Int)) n n r).trans ?_;rw[A9,AE j,gd j n hi,Fe j n hi,FH (by omega)];rfl)
 (fun q ⟨n,len0,j0,n_2,n_3,r⟩ hc R K=>by
  obtain⟨h1,h2,h3,h4,h5⟩:=c_l21_iff.1 hc;dsimp only at*
  refine(Aae R K q n ((n:Int)) ((n:Int)) n n r).trans ?_;rw[F8 n];rfl)
theorem Af1:Ai C24 l41.C:=l41.ok (by kernel_rfl)
 (fun its x h hc=>by
  replace h:kR its=some x:=h;unfold kR at h;split at h
  ·cases h;obtain⟨h1,h2,h3,h4,h5,h6,h7⟩:=c_l41_iff.1 hc;dsimp only at h1 h2 h3 h4 h5 h6;subst h1 h2 h3 h4 h5 h6;rfl
  ·cases h)
 (fun x hc=>by have:=c_l41_iff.1 hc;show x.n<18446744073709551616;omega)
 (fun q ⟨n,len0,j0,n_2,n_3,lw,up,n_4,n_5,r,lb,hb⟩ j hc hi R K=>by
  obtain⟨h1,h2,h3,h4,h5,h6,h7⟩:=c_l41_iff.1 hc;dsimp only at*
  replace hi:j<n:=hi;refine(zX R K q n ((n:Int)) ((j:Int)) n n lw up n n r lb hb).trans ?_;rw[A9,AE j,gd j n hi,Fe j n hi,FH (by omega),Aa,Aa];exact(La _ _ _ _).symm)
 (fun q ⟨n,len0,j0,n_2,n_3,lw,up,n_4,n_5,r,lb,hb⟩ hc R K=>by
  obtain⟨h1,h2,h3,h4,h5,h6,h7⟩:=c_l41_iff.1 hc;dsimp only at*
  refine(zX R K q n ((n:Int)) ((n:Int)) n n lw up n n r lb hb).trans ?_;rw[F8 n];rfl)
theorem Aht:Ai C7 l7.C:=l7.ok (by kernel_rfl)
 (fun its x h hc=>by
  replace h:Aet its=some x:=h;unfold Aet at h;split at h
  ·cases h;obtain⟨h1,h2,h3,h4,h5,h6⟩:=c_l7_iff.1 hc;dsimp only at h1 h2 h3;subst h1 h2 h3;rfl
  ·cases h)
 (fun x hc=>by have:=c_l7_iff.1 hc;show x.n<18446744073709551616;omega)
 (fun q ⟨n,len0,j0,n_2,r⟩ j hc hi R K=>by
  obtain⟨h1,h2,h3,h4,h5,h6⟩:=c_l7_iff.1 hc;dsimp only at*
  replace hi:j<n:=hi;refine(Aie R K q n ((n:Int)) ((j:Int)) n r).trans ?_;have hb:=anyF_false.1 (show Ap _ _ _=false from h5) j (Nat.zero_le _) (by omega);replace hb:=AO hb;rw[A9,AE j,gd j n hi,Fe j n hi,FH (by omega),show decide ((w_ (r.R j 0) 0 (r.R j 0).n).n<=1000000)=true from A4 (by rw[wn_];omega),show(decide ((0:Int)<=0)&&decide ((0:Int)<(n:Int)))=true by simp only[A2,A3];omega,Aa,Aa,Aa,Aa];exact(La _ _ _ _).symm)
 (fun q ⟨n,len0,j0,n_2,r⟩ hc R K=>by
  obtain⟨h1,h2,h3,h4,h5,h6⟩:=c_l7_iff.1 hc;dsimp only at*
  refine(Aie R K q n ((n:Int)) ((n:Int)) n r).trans ?_;rw[F8 n];rfl)
theorem Ag9:Bi C23:=Aq enter mixed (fun p h=>by cases h) (fun l h=>by
 simp only[A8,A7,or_false]at h;rcases h with rfl;exact Agn)
theorem Abe:Bi C20:=Aq enter mixed (fun p h=>by cases h) (fun l h=>by
 simp only[A8,A7,or_false]at h;rcases h with rfl;exact Adu)
theorem Ae2:Bi C24:=Aq enter mixed (fun p h=>by cases h) (fun l h=>by
 simp only[A8,A7,or_false]at h;rcases h with rfl;exact Af1)
theorem rO:Den Tryz.prog 83 Ad8:=Ag Ag9 fun ds rs h=>by
 unfold Ad8 at h;split at h
 ·rename_i r;simp only[A5,A6]at h;obtain⟨h0,rfl⟩:=h;have h0:=AD h0;refine(u23 r).trans ?_;rw[c_l22_iff.2 ⟨rfl,rfl,rfl,rfl,h0⟩,Aa];show br (Ap (fun j=>QX (r.I j 0)) r.n 0) _ _=some [D.v (.bool (Ap (fun j=>QX (r.I j 0)) r.n 0))];cases Ap (fun j=>QX (r.I j 0)) r.n 0
  ·rfl
  ·rw[Aa,A4 (by omega)]
 ·cases h
theorem sF:Den Tryz.prog 80 Afw:=Ag Abe fun ds rs h=>by
 unfold Afw at h;split at h
 ·rename_i r;simp only[A5,A6]at h;obtain⟨h0,rfl⟩:=h;have h0:=AD h0;refine(u20 r).trans ?_;rw[c_l21_iff.2 ⟨rfl,rfl,rfl,rfl,h0⟩,Aa];show br (Ap (fun j=>decide (((r.R j 0).n:Int)>10)) r.n 0) _ _=some [D.v (.bool (Ap (fun j=>decide (((r.R j 0).n:Int)>10)) r.n 0))];cases Ap (fun j=>decide (((r.R j 0).n:Int)>10)) r.n 0
  ·rfl
  ·rw[Aa,A4 (by omega)]
 ·cases h
def U7(lo hi:Int)(r:Row):Bool:= !Ap (fun j=>Qr lo hi (r.I j 0)) r.n 0
def Acp:FD
 |[.v (.int .i64 lo),.v (.int .i64 hi),.slice [.int .i64] r]=>some (r.n<=1000000,[.v (.bool (U7 lo hi r))])
 |_=>none
theorem VZ:Den Tryz.prog 84 Acp:=Ag Ae2 fun ds rs h=>by
 unfold Acp at h;split at h
 ·rename_i lo hi r;simp only[A5,A6]at h;obtain⟨h0,rfl⟩:=h;have h0:=AD h0;refine(u24 lo hi r).trans ?_;rw[c_l41_iff.2 ⟨rfl,rfl,rfl,rfl,rfl,rfl,h0⟩,Aa];unfold U7;show br (Ap (fun j=>Qr lo hi (r.I j 0)) r.n 0) _ _=_;cases Ap (fun j=>Qr lo hi (r.I j 0)) r.n 0
  ·rfl
  ·rw[Aa,A4 (by omega)]
 ·cases h
theorem mO:Bi C7:=Aq enter mixed (fun p h=>by
 simp only[A8,A7,or_false]at h;rcases h with rfl|rfl
 ·exact sF
 ·exact rO) (fun l h=>by
 simp only[A8,A7,or_false]at h;rcases h with rfl;exact Aht)
def chkE(r:Row):Int:=bif decide ((r.n:Int)>6)||Lr r then 4 else bif (r.n:Int)==0||Ap (J7 r) r.n 0 then 8 else 0
def Fchk:FD
 |[.agg [.slice [.slice [.int .i64]] r]]=>some (r.n<=1000000,[.v (i64 (chkE r))])
 |_=>none
theorem den_chk:Den Tryz.prog 35 Fchk:=Ag mO fun ds rs h=>by
 unfold Fchk at h;split at h
 ·rename_i r;simp only[A5,A6]at h;obtain⟨h0,rfl⟩:=h;have h0:=AD h0;refine(u7 r).trans ?_;unfold chkE;by_cases c1:(r.n:Int)>6
  ·rw[A4 c1];rfl
  ·rw[AB c1,Ac,A4 (show(w_ r 0 r.n).n<=1000000 by rw[wn_];exact h0),Aa,Bool.false_or];show br (Lr r) _ _=_;cases c2:Lr r
   ·rw[Ac];cases c3:(r.n:Int)==0
    ·rw[Ac,c_l7_iff.2 ⟨rfl,rfl,rfl,by dsimp only;omega,c2,rfl⟩,Aa];show br (Ap (J7 r) r.n 0) _ _=_;cases Ap (J7 r) r.n 0<;>rfl
    ·rfl
   ·rfl
 ·cases h
theorem Fa{r:Row}(h:chkE r=0):1<=r.n∧r.n<=6∧∀i,i<r.n->(r.R i 0).n=(r.R 0 0).n∧(r.R i 0).n<=10∧∀k,k<(r.R i 0).n->0<=(r.R i 0).I k 0∧(r.R i 0).I k 0<=1000:=by
 unfold chkE at h;cases c1:decide ((r.n:Int)>6)||Lr r
 ·rw[c1,cond_false]at h;rw[AI,decide_eq_false_iff_not]at c1;cases c2:(r.n:Int)==0||Ap (J7 r) r.n 0
  ·rw[AI]at c2;have c3:¬(r.n:Int)=0:=by simpa using c2.1
   refine⟨by omega,by omega,fun i hi=>?_⟩;have c4:=anyF_false.1 c2.2 i (Nat.zero_le _) (by omega);have c5:=AO (anyF_false.1 c1.2 i (Nat.zero_le _) (by omega));unfold J7 at c4;rw[AI]at c4;have c6:((r.R i 0).n:Int)=((r.R 0 0).n:Int):=by simpa using c4.1
   refine⟨by omega,by omega,fun k hk=>?_⟩;have c7:=anyF_false.1 c4.2 k (Nat.zero_le _) (by omega);simp only[QX,AI,decide_eq_false_iff_not]at c7;omega
  ·rw[c2]at h;cases h
 ·rw[c1]at h;cases h
noncomputable def C8:Cx:=AU Tryz.prog fns [(35,Fchk),(84,Acp)] []
theorem Ai3:Bi C8:=Aq enter mixed (fun p h=>by
 simp only[A8,A7,or_false]at h;rcases h with rfl|rfl
 ·exact den_chk
 ·exact VZ) (fun l h=>by cases h)
theorem u8(r a:Row):BZ C8 6 36 [.agg [.slice Ls r],.slice FW a]=br ((w_ r 0 r.n).n<=1000000) (br (chkE (w_ r 0 r.n) !=0) (some [.v (i64 (chkE (w_ r 0 r.n)))]) (br ((0:Int)<=0&&0<(r.n:Int)) (br ((a.n:Int) !=(↑(r.R 0 0).n:Int)) (some [.v (i64 8)]) (br ((w_ a 0 a.n).n<=1000000) (br (!U7 (-1) (r.n:Int) (w_ a 0 a.n)) (some [.v (i64 8)]) (some [.v (i64 0)])) none)) none)) (none):=by kernel_rfl
def AZ(r a:Row):Int:=bif chkE r !=0 then chkE r else bif (a.n:Int) !=((r.R 0 0).n:Int)|| !U7 (-1) r.n a then 8 else 0
def wI:FD
 |[.agg [.slice [.slice [.int .i64]] r],.slice [.int .i64] a]=>some (r.n<=1000000∧a.n<=1000000,[.v (i64 (AZ r a))])
 |_=>none
theorem den_val:Den Tryz.prog 36 wI:=Ag Ai3 fun ds rs h=>by
 unfold wI at h;split at h
 ·rename_i r a;simp only[A5,A6]at h;obtain⟨h0,rfl⟩:=h;have h0:=AD h0;refine(u8 r a).trans ?_;unfold AZ;rw[A4 (show(w_ r 0 r.n).n<=1000000 by rw[wn_];exact h0.1),Aa];show br (chkE r !=0) _ _=_;cases c1:chkE r !=0
  ·have c1:chkE r=0:=by simpa using c1
   have c2:=(Fa c1).1;rw[Ac,show(decide ((0:Int)<=0)&&decide ((0:Int)<(r.n:Int)))=true by simp only[A2,A3];omega,Aa];cases c3:(a.n:Int) !=((r.R 0 0).n:Int)
   ·rw[Ac,A4 (show(w_ a 0 a.n).n<=1000000 by rw[wn_];exact h0.2),Aa];show br (!U7 (-1) r.n a) _ _=_;cases U7 (-1) r.n a<;>rfl
   ·rfl
  ·rfl
 ·cases h
def DU(o w:Row):Row:=(w_ o 0 o.n).app (w_ ((Row.zeros 1).setR 0 0 w) 0 1)
theorem Je{o w:Row}{i:Nat}(h:i<o.n):(DU o w).R i 0=o.R i 0:=by
 show(bif Nat.blt i (w_ o 0 o.n).n then(w_ o 0 o.n).R i 0 else _)=_;rw[wn_,show Nat.blt i o.n=true by rw[Nat.blt_eq];exact h];rfl
theorem IP{o w:Row}{i:Nat}(h:i=o.n):(DU o w).R i 0=w:=by
 subst h;show(bif Nat.blt o.n (w_ o 0 o.n).n then(w_ o 0 o.n).R o.n 0 else(bif Nat.beq (o.n-(w_ o 0 o.n).n) 0&&Nat.beq 0 0 then w else _))=_;rw[wn_,show Nat.blt o.n o.n=false from Bool.eq_false_iff.2 (by rw[Ne,Nat.blt_eq];exact Nat.lt_irrefl _),Nat.sub_self];rfl
def Ad(r:Row):Row:=w_ r 0 r.n
def zG:Ed:={τ:=pu 3++[.v (.int .i64)]++pu 2++[.v (.sl 0),.v (.int .i64),.v (.int .i64)]++pu 8,saved:=[[]],mem:=[.row [.int .i64] false]}
structure A_l26 where
 s:Int
 n:Nat
 len:Int
 j:Int
 r:Row
def aJ(its:List It):Option A_l26:=match its with|[.i s,.n n,.i len,.i j,.r r]=>some ⟨s,n,len,j,r⟩|_=>none
def dR(x:A_l26):Bool:=x.j=0∧x.len=x.n∧x.n<=1000000
def c_l26_iff{x:A_l26}:=@BC _ dR _ _ rfl x
def l26:FoldL A_l26 (Int):=⟨140,3,[3,6,7,8],[2,3],zG,aJ,fun x j a=>[.i a,.n x.n,.i (x.n:Int),.i (j:Int),.r x.r],fun x=>x.n,dR,fun x=>x.s,fun x j a=>IntKind.i64.wrap (a+x.r.I j 0),fun x a K=>K (.exit 0) ⟨us 3++[i64 ((a))]++us 13,[[]],[]⟩⟩
def suI(r:Row):Int:=AP (fun j a=>IntKind.i64.wrap (a+r.I j 0)) r.n 0 0
def Fsum:FD
 |[.slice [.int .i64] r]=>some (r.n<=1000000,[.v (i64 (suI r))])
 |_=>none
noncomputable def C26:Cx:=AU Tryz.prog fns [] [l26.C]
theorem Aa4(R:St->OD)(K:X->St->OD)(q:Nat)(s:Int)(n:Nat)(len j:Int)(r:Row):Ar C26 140 3 q (bst zG [.i s,.n n,.i len,.i j,.r r]) (BI [3,6,7,8] (some [2,3]) R K)=br (j<len) (br (0<=j&&j<(n:Int)) (R ⟨us 3++[i64 (IntKind.i64.wrap (s+r.I (0+j.toNat) 0))]++us 2++[S_ 0 0 n,i64 len,i64 (IntKind.i64.wrap (j+1))]++us 8,[[]],[some (.row [.int .i64] false r)]⟩) none) (K (.exit 0) ⟨us 3++[i64 s]++us 13,[[]],[]⟩):=by kernel_rfl
theorem u26(r:Row):BZ C26 6 140 [.slice FW r]=br (dR (⟨0,r.n,(r.n:Int),0,r⟩:A_l26)) (some [.v (i64 (AP (fun j a=>IntKind.i64.wrap (a+r.I j 0)) r.n 0 0))]) (none):=by kernel_rfl
theorem Ac8:Ai C26 l26.C:=l26.ok (fun x j a=>True) (by kernel_rfl)
 (fun its x h hc=>by
  replace h:aJ its=some x:=h;unfold aJ at h;split at h
  ·cases h;obtain⟨h1,h2,h3⟩:=c_l26_iff.1 hc;dsimp only at h1 h2;subst h1 h2;rfl
  ·cases h)
 (fun x hc=>by have:=c_l26_iff.1 hc;show x.n<18446744073709551616;omega)
 (fun x hc=>by
  trivial)
 (fun x j a hc hi hI=>by
  trivial)
 (fun q ⟨s0,n,len0,j0,r⟩ j a hc hi hI R K=>by
  obtain⟨h1,h2,h3⟩:=c_l26_iff.1 hc;dsimp only at*
  replace hi:j<n:=hi;refine(Aa4 R K q ((a)) n ((n:Int)) ((j:Int)) r).trans ?_;rw[A9,AE j,gd j n hi,Fe j n hi,FH (by omega)];rfl)
 (fun q ⟨s0,n,len0,j0,r⟩ a hc hI R K=>by
  obtain⟨h1,h2,h3⟩:=c_l26_iff.1 hc;dsimp only at*
  refine(Aa4 R K q ((a)) n ((n:Int)) ((n:Int)) r).trans ?_;rw[F8 n];rfl)
theorem Adx:Bi C26:=Aq enter mixed (fun p h=>by cases h) (fun l h=>by
 simp only[A8,A7,or_false]at h;rcases h with rfl;exact Ac8)
theorem den_sum:Den Tryz.prog 140 Fsum:=Ag Adx fun ds rs h=>by
 unfold Fsum at h;split at h
 ·rename_i r;simp only[A5,A6]at h;obtain⟨h0,rfl⟩:=h;have h0:=AD h0;refine(u26 r).trans ?_;rw[c_l26_iff.2 ⟨rfl,rfl,h0⟩,Aa];rfl
 ·cases h
def xM:Ed:={τ:=[.v (.sl 0),.v (.sl 1)]++pu 3++[.v (.int .i64)]++pu 20,saved:=[[]],mem:=[.row [.int .i64] false,.row [.int .i64] false]}
structure A_l15 where
 n:Nat
 n_2:Nat
 j:Int
 r:Row
 s:Row
def nO(its:List It):Option A_l15:=match its with|[.n n,.n n_2,.i j,.r r,.r s]=>some ⟨n,n_2,j,r,s⟩|_=>none
def nS(x:A_l15):Bool:=x.j=0∧x.n_2=x.n∧x.n<=1000000
def c_l15_iff{x:A_l15}:=@BC _ nS _ _ rfl x
def l15:ScanL A_l15:=⟨54,4,[0,1,5],[4],xM,nO,fun x j=>[.n x.n,.n x.n,.i (j:Int),.r x.r,.r x.s],fun x=>x.n,nS,fun x j=>x.r.I j 0 !=x.s.I j 0,fun x j K=>K .ret ⟨us 4++[.bool false]++us 21,[[]],[]⟩,fun x K=>K (.exit 0) ⟨us 26,[[]],[]⟩⟩
noncomputable def C15:Cx:=AU Tryz.prog fns [] [l15.C]
def LP(r s:Row):Bool:=(r.n:Int)==(s.n:Int)&& !Ap (fun j=>r.I j 0 !=s.I j 0) r.n 0
def uS:FD
 |[.slice [.int .i64] r,.slice [.int .i64] s]=>some (r.n<=1000000,[.v (.bool (LP r s))])
 |_=>none
def Aal:Ed:={τ:=[.v (.sl 0),.v (.sl 1)]++pu 3++[.v (.int .i64)]++pu 21,saved:=[[]],mem:=[.row [.slice [.int .i64]] false,.row [.slice [.int .i64]] false]}
structure A_l14 where
 n:Nat
 n_2:Nat
 j:Int
 r:Row
 s:Row
def aU(its:List It):Option A_l14:=match its with|[.n n,.n n_2,.i j,.r r,.r s]=>some ⟨n,n_2,j,r,s⟩|_=>none
def lZ(x:A_l14):Bool:=x.j=0∧x.n_2=x.n∧x.n<=1000000∧(∀i,i<x.n->(x.r.R i 0).n<=1000000)
def c_l14_iff{x:A_l14}:=@BC _ lZ _ _ rfl x
def l14:ScanL A_l14:=⟨53,4,[0,1,5],[4],Aal,aU,fun x j=>[.n x.n,.n x.n,.i (j:Int),.r x.r,.r x.s],fun x=>x.n,lZ,fun x j=> !LP (x.r.R j 0) (x.s.R j 0),fun x j K=>K .ret ⟨us 4++[.bool false]++us 22,[[]],[]⟩,fun x K=>K (.exit 0) ⟨us 27,[[]],[]⟩⟩
noncomputable def C14:Cx:=AU Tryz.prog fns [(54,uS)] [l14.C]
def Aim:Ed:={τ:=pu 1++[.v (.sl 0),.v (.c (.pointer (some ⟨1,0,some 0⟩)))]++pu 2++[.v (.int .i64)]++pu 27,saved:=[[]],mem:=[.row [.int .i64] false,.box [.v (.sl 2)],.row [.slice [.int .i64]] false]}
structure A_l5 where
 an:Nat
 j:Int
 a0:Row
 rn:Nat
 r:Row
def Aen(its:List It):Option A_l5:=match its with|[.n an,.i j,.r a0,.n rn,.r r]=>some ⟨an,j,a0,rn,r⟩|_=>none
def Ac1(x:A_l5):Bool:=x.j=0∧x.an=x.an
def c_l5_iff{x:A_l5}:=@BC _ Ac1 _ _ rfl x
def l5:ScanL A_l5:=⟨16,2,[1,2,5],[1,2,4],Aim,Aen,fun x j=>[.n x.an,.i (j:Int),.r x.a0,.n x.rn,.r x.r],fun x=>min x.rn 20,Ac1,fun x j=>decide (((x.r.R j 0).n:Int)>50),fun x j K=>K .ret ⟨us 1++[S_ 0 0 x.an,.pointer (some ⟨1,0,some 0⟩)]++us 1++[.bool true]++us 28,[[]],[some (.row [.int .i64] false x.a0),some (.box [S_ 2 0 x.rn]),some (.row [.slice [.int .i64]] false x.r)]⟩,fun x K=>K (.exit 0) ⟨us 1++[S_ 0 0 x.an,.pointer (some ⟨1,0,some 0⟩)]++us 30,[[]],[some (.row [.int .i64] false x.a0),some (.box [S_ 2 0 x.rn]),some (.row [.slice [.int .i64]] false x.r)]⟩⟩
noncomputable def C5:Cx:=AU Tryz.prog fns [] [l5.C]
def xG:Ed:={τ:=pu 5++[.v (.sl 0),.v (.int .i64),.v (.int .i64)]++pu 7,saved:=[[]],mem:=[.row [.int .i64] false]}
structure A_l32 where
 n:Nat
 len:Int
 j:Int
 r:Row
def mG(its:List It):Option A_l32:=match its with|[.n n,.i len,.i j,.r r]=>some ⟨n,len,j,r⟩|_=>none
def dX(x:A_l32):Bool:=x.j=0∧x.len=x.n∧x.n<=1000000
def c_l32_iff{x:A_l32}:=@BC _ dX _ _ rfl x
def l32:ScanL A_l32:=⟨34,2,[5,6,7],[2],xG,mG,fun x j=>[.n x.n,.i (x.n:Int),.i (j:Int),.r x.r],fun x=>x.n,dX,fun x j=>x.r.I j 0 !=0,fun x j K=>K .ret ⟨us 2++[i64 (x.r.I j 0)]++us 12,[[]],[]⟩,fun x K=>K (.exit 0) ⟨us 15,[[]],[]⟩⟩
noncomputable def C32:Cx:=AU Tryz.prog fns [] [l32.C]
theorem Ab5(R:St->OD)(K:X->St->OD)(q n n_2:Nat)(j:Int)(r s:Row):Ar C15 54 4 q (bst xM [.n n,.n n_2,.i j,.r r,.r s]) (BI [0,1,5] (some [4]) R K)=br (j<(n:Int)) (br (0<=j&&j<(n:Int)) (br (0<=j&&j<(n_2:Int)) (br (r.I (0+j.toNat) 0 !=s.I (0+j.toNat) 0) (K .ret ⟨us 4++[.bool false]++us 21,[[]],[]⟩) (R ⟨[S_ 0 0 n,S_ 1 0 n_2]++us 3++[i64 (IntKind.i64.wrap (j+1))]++us 20,[[]],[some (.row [.int .i64] false r),some (.row [.int .i64] false s)]⟩)) none) none) (K (.exit 0) ⟨us 26,[[]],[]⟩):=by kernel_rfl
theorem zN(R:St->OD)(K:X->St->OD)(q n n_2:Nat)(j:Int)(r s:Row):Ar C14 53 4 q (bst Aal [.n n,.n n_2,.i j,.r r,.r s]) (BI [0,1,5] (some [4]) R K)=br (j<(n:Int)) (br (0<=j&&j<(n:Int)) (br (0<=j&&j<(n_2:Int)) (br ((w_ (r.R (0+j.toNat) 0) 0 (r.R (0+j.toNat) 0).n).n<=1000000) (br (!LP (w_ (r.R (0+j.toNat) 0) 0 (r.R (0+j.toNat) 0).n) (w_ (s.R (0+j.toNat) 0) 0 (s.R (0+j.toNat) 0).n)) (K .ret ⟨us 4++[.bool false]++us 22,[[]],[]⟩) (R ⟨[S_ 0 0 n,S_ 1 0 n_2]++us 3++[i64 (IntKind.i64.wrap (j+1))]++us 21,[[]],[some (.row [.slice [.int .i64]] false r),some (.row [.slice [.int .i64]] false s)]⟩)) none) none) none) (K (.exit 0) ⟨us 27,[[]],[]⟩):=by kernel_rfl
theorem Ai0(R:St->OD)(K:X->St->OD)(q an:Nat)(j:Int)(a0:Row)(rn:Nat)(r:Row):Ar C5 16 2 q (bst Aim [.n an,.i j,.r a0,.n rn,.r r]) (BI [1,2,5] (some [1,2,4]) R K)=br (j<(rn:Int)) (br (j<20) (br (0<=j&&j<(rn:Int)) (br ((↑(r.R (0+j.toNat) 0).n:Int)>50) (K .ret ⟨us 1++[S_ 0 0 an,.pointer (some ⟨1,0,some 0⟩)]++us 1++[.bool true]++us 28,[[]],[some (.row [.int .i64] false a0),some (.box [S_ 2 0 rn]),some (.row [.slice [.int .i64]] false r)]⟩) (R ⟨us 1++[S_ 0 0 an,.pointer (some ⟨1,0,some 0⟩)]++us 2++[i64 (IntKind.i64.wrap (j+1))]++us 27,[[]],[some (.row [.int .i64] false a0),some (.box [S_ 2 0 rn]),some (.row [.slice [.int .i64]] false r)]⟩)) none) (K (.exit 0) ⟨us 1++[S_ 0 0 an,.pointer (some ⟨1,0,some 0⟩)]++us 30,[[]],[some (.row [.int .i64] false a0),some (.box [S_ 2 0 rn]),some (.row [.slice [.int .i64]] false r)]⟩)) (K (.exit 0) ⟨us 1++[S_ 0 0 an,.pointer (some ⟨1,0,some 0⟩)]++us 30,[[]],[some (.row [.int .i64] false a0),some (.box [S_ 2 0 rn]),some (.row [.slice [.int .i64]] false r)]⟩):=by kernel_rfl
theorem Ab3(R:St->OD)(K:X->St->OD)(q n:Nat)(len j:Int)(r:Row):Ar C32 34 2 q (bst xG [.n n,.i len,.i j,.r r]) (BI [5,6,7] (some [2]) R K)=br (j<len) (br (0<=j&&j<(n:Int)) (br (r.I (0+j.toNat) 0 !=0) (K .ret ⟨us 2++[i64 (r.I (0+j.toNat) 0)]++us 12,[[]],[]⟩) (R ⟨us 5++[S_ 0 0 n,i64 len,i64 (IntKind.i64.wrap (j+1))]++us 7,[[]],[some (.row [.int .i64] false r)]⟩)) none) (K (.exit 0) ⟨us 15,[[]],[]⟩):=by kernel_rfl
theorem u32(r:Row):BZ C32 6 34 [.slice FW r]=br (dX (⟨r.n,(r.n:Int),0,r⟩:A_l32)) (br (Ap (fun j=>r.I j 0 !=0) r.n 0) (some [.v (i64 (r.I (FU (fun j=>r.I j 0 !=0) r.n 0) 0))]) (some [.v (i64 0)])) (none):=by kernel_rfl
theorem u15(r s:Row):BZ C15 6 54 [.slice FW r,.slice FW s]=br ((r.n:Int) !=(s.n:Int)) (some [.v (.bool false)]) (br (nS (⟨r.n,s.n,0,r,s⟩:A_l15)) (br (Ap (fun j=>r.I j 0 !=s.I j 0) r.n 0) (some [.v (.bool false)]) (some [.v (.bool true)])) none):=by kernel_rfl
theorem u14(r s:Row):BZ C14 6 53 [.slice Ls r,.slice Ls s]=br ((r.n:Int) !=(s.n:Int)) (some [.v (.bool false)]) (br (lZ (⟨r.n,s.n,0,r,s⟩:A_l14)) (br (Ap (fun j=> !LP (r.R j 0) (s.R j 0)) r.n 0) (some [.v (.bool false)]) (some [.v (.bool true)])) none):=by kernel_rfl
theorem u5(r a:Row):BZ C5 6 16 [.agg [.slice Ls r],.slice FW a]=br (Ac1 (⟨a.n,0,a,r.n,r⟩:A_l5)) (br (Ap (fun j=>decide ((↑(r.R j 0).n:Int)>50)) (min r.n 20) 0) (some [.v (.bool true)]) (br ((r.n:Int)>20) (some [.v (.bool true)]) (some [.v (.bool ((a.n:Int)>50))]))) (none):=by kernel_rfl
theorem Acm:Ai C15 l15.C:=l15.ok (by kernel_rfl)
 (fun its x h hc=>by
  replace h:nO its=some x:=h;unfold nO at h;split at h
  ·cases h;obtain⟨h1,h2,h3⟩:=c_l15_iff.1 hc;dsimp only at h1 h2;subst h1 h2;rfl
  ·cases h)
 (fun x hc=>by have:=c_l15_iff.1 hc;show x.n<18446744073709551616;omega)
 (fun q ⟨n,n_2,j0,r,s⟩ j hc hi R K=>by
  obtain⟨h1,h2,h3⟩:=c_l15_iff.1 hc;dsimp only at*
  replace hi:j<n:=hi;refine(Ab5 R K q n n ((j:Int)) r s).trans ?_;rw[A9 j,AE j,gd j n hi,Fe j n hi,FH (by omega)];rfl)
 (fun q ⟨n,n_2,j0,r,s⟩ hc R K=>by
  obtain⟨h1,h2,h3⟩:=c_l15_iff.1 hc;dsimp only at*
  refine(Ab5 R K q n n ((n:Int)) r s).trans ?_;rw[F8 n];rfl)
theorem Aeq:Ai C14 l14.C:=l14.ok (by kernel_rfl)
 (fun its x h hc=>by
  replace h:aU its=some x:=h;unfold aU at h;split at h
  ·cases h;obtain⟨h1,h2,h3,h4⟩:=c_l14_iff.1 hc;dsimp only at h1 h2;subst h1 h2;rfl
  ·cases h)
 (fun x hc=>by have:=c_l14_iff.1 hc;show x.n<18446744073709551616;omega)
 (fun q ⟨n,n_2,j0,r,s⟩ j hc hi R K=>by
  obtain⟨h1,h2,h3,h4⟩:=c_l14_iff.1 hc;dsimp only at*
  replace hi:j<n:=hi;refine(zN R K q n n ((j:Int)) r s).trans ?_;have k1:=h4 j hi;rw[A9 j,AE j,gd j n hi,Fe j n hi,FH (by omega),A4 (show(w_ (r.R j 0) 0 (r.R j 0).n).n<=1000000 by rw[wn_];exact k1)];rfl)
 (fun q ⟨n,n_2,j0,r,s⟩ hc R K=>by
  obtain⟨h1,h2,h3,h4⟩:=c_l14_iff.1 hc;dsimp only at*
  refine(zN R K q n n ((n:Int)) r s).trans ?_;rw[F8 n];rfl)
theorem Ai7:Ai C5 l5.C:=l5.ok (by kernel_rfl)
 (fun its x h hc=>by
  replace h:Aen its=some x:=h;unfold Aen at h;split at h
  ·cases h;obtain⟨h1,h2⟩:=c_l5_iff.1 hc;dsimp only at h1;subst h1;rfl
  ·cases h)
 (fun x hc=>by have:=c_l5_iff.1 hc;show min x.rn 20<18446744073709551616;omega)
 (fun q ⟨an,j0,a0,rn,r⟩ j hc hi R K=>by
  obtain⟨h1,h2⟩:=c_l5_iff.1 hc;dsimp only at*
  replace hi:j<min rn 20:=hi;refine(Ai0 R K q an ((j:Int)) a0 rn r).trans ?_;rw[A9 j,AE j,gd j rn (by omega),Fe j rn (by omega),FH (by omega),A4 (show(j:Int)<20 by omega)];rfl)
 (fun q ⟨an,j0,a0,rn,r⟩ hc R K=>by
  obtain⟨h1,h2⟩:=c_l5_iff.1 hc;dsimp only at*
  refine(Ai0 R K q an (((min rn 20:Nat):Int)) a0 rn r).trans ?_;by_cases k:rn<=20
  ·rw[Nat.min_eq_left k,F8 rn];rfl
  ·rw[Nat.min_eq_right (by omega),A4 (show((20:Nat):Int)<(rn:Int) by omega),AB (show¬((20:Nat):Int)<20 by omega)];rfl)
theorem Afq:Ai C32 l32.C:=l32.ok (by kernel_rfl)
 (fun its x h hc=>by
  replace h:mG its=some x:=h;unfold mG at h;split at h
  ·cases h;obtain⟨h1,h2,h3⟩:=c_l32_iff.1 hc;dsimp only at h1 h2;subst h1 h2;rfl
  ·cases h)
 (fun x hc=>by have:=c_l32_iff.1 hc;show x.n<18446744073709551616;omega)
 (fun q ⟨n,len0,j0,r⟩ j hc hi R K=>by
  obtain⟨h1,h2,h3⟩:=c_l32_iff.1 hc;dsimp only at*
  replace hi:j<n:=hi;refine(Ab3 R K q n ((n:Int)) ((j:Int)) r).trans ?_;rw[A9,AE j,gd j n hi,Fe j n hi,FH (by omega)];rfl)
 (fun q ⟨n,len0,j0,r⟩ hc R K=>by
  obtain⟨h1,h2,h3⟩:=c_l32_iff.1 hc;dsimp only at*
  refine(Ab3 R K q n ((n:Int)) ((n:Int)) r).trans ?_;rw[F8 n];rfl)
theorem Adl:Bi C15:=Aq enter mixed (fun p h=>by cases h) (fun l h=>by
 simp only[A8,A7,or_false]at h;rcases h with rfl;exact Acm)
theorem Ahu:Bi C5:=Aq enter mixed (fun p h=>by cases h) (fun l h=>by
 simp only[A8,A7,or_false]at h;rcases h with rfl;exact Ai7)
theorem Agj:Bi C32:=Aq enter mixed (fun p h=>by cases h) (fun l h=>by
 simp only[A8,A7,or_false]at h;rcases h with rfl;exact Afq)
theorem eX{r s:Row}(c:r.n=s.n):((r.n:Int) !=(s.n:Int))=false:=by rw[c];simp
theorem den_sam:Den Tryz.prog 54 uS:=Ag Adl fun ds rs h=>by
 unfold uS at h;split at h
 ·rename_i r s;simp only[A5,A6]at h;obtain⟨h0,rfl⟩:=h;have h0:=AD h0;refine(u15 r s).trans ?_;unfold LP;by_cases c:r.n=s.n
  ·rw[eX c,Ac,c_l15_iff.2 ⟨rfl,c.symm,h0⟩,Aa,show((r.n:Int)==(s.n:Int))=true by rw[c];exact beq_self_eq_true _,Bool.true_and];show br (Ap (fun j=>r.I j 0 !=s.I j 0) r.n 0) _ _=_;cases Ap (fun j=>r.I j 0 !=s.I j 0) r.n 0<;>rfl
  ·rw[show((r.n:Int) !=(s.n:Int))=true by simp;omega,show((r.n:Int)==(s.n:Int))=false by simp;omega];rfl
 ·cases h
theorem Ags:Bi C14:=Aq enter mixed (fun p h=>by
 simp only[A8,A7,or_false]at h;rcases h with rfl;exact den_sam) (fun l h=>by
 simp only[A8,A7,or_false]at h;rcases h with rfl;exact Aeq)
def ZJ(r s:Row):Bool:=(r.n:Int)==(s.n:Int)&& !Ap (fun j=> !LP (r.R j 0) (s.R j 0)) r.n 0
def Aa2:FD
 |[.slice [.slice [.int .i64]] r,.slice [.slice [.int .i64]] s]=>some (decide (r.n<=1000000∧∀i,i<r.n->(r.R i 0).n<=1000000),[.v (.bool (ZJ r s))])
 |_=>none
def VX(r a:Row):Bool:=Ap (fun j=>decide (((r.R j 0).n:Int)>50)) (min r.n 20) 0||(decide ((r.n:Int)>20)||decide ((a.n:Int)>50))
def Ae3:FD
 |[.agg [.slice [.slice [.int .i64]] r],.slice [.int .i64] a]=>some (r.n=r.n,[.v (.bool (VX r a))])
 |_=>none
def Ef(r:Row):Int:=bif Ap (fun j=>r.I j 0 !=0) r.n 0 then r.I (FU (fun j=>r.I j 0 !=0) r.n 0) 0 else 0
def Acv:FD
 |[.slice [.int .i64] r]=>some (r.n<=1000000,[.v (i64 (Ef r))])
 |_=>none
theorem den_samL:Den Tryz.prog 53 Aa2:=Ag Ags fun ds rs h=>by
 unfold Aa2 at h;split at h
 ·rename_i r s;simp only[A5,A6]at h;obtain⟨h0,rfl⟩:=h;have h0:=AD h0;refine(u14 r s).trans ?_;unfold ZJ;by_cases c:r.n=s.n
  ·rw[eX c,Ac,c_l14_iff.2 ⟨rfl,c.symm,h0.1,h0.2⟩,Aa,show((r.n:Int)==(s.n:Int))=true by rw[c];exact beq_self_eq_true _,Bool.true_and];show br (Ap (fun j=> !LP (r.R j 0) (s.R j 0)) r.n 0) _ _=_;cases Ap (fun j=> !LP (r.R j 0) (s.R j 0)) r.n 0<;>rfl
  ·rw[show((r.n:Int) !=(s.n:Int))=true by simp;omega,show((r.n:Int)==(s.n:Int))=false by simp;omega];rfl
 ·cases h
theorem uH:Den Tryz.prog 16 Ae3:=Ag Ahu fun ds rs h=>by
 unfold Ae3 at h;split at h
 ·rename_i r a;simp only[A5,A6]at h;obtain⟨h0,rfl⟩:=h;have h0:=AD h0;refine(u5 r a).trans ?_;rw[c_l5_iff.2 ⟨rfl,rfl⟩,Aa];unfold VX;show br (Ap (fun j=>decide (((r.R j 0).n:Int)>50)) (min r.n 20) 0) _ (br (decide ((r.n:Int)>20)) _ (some [.v (.bool (decide ((a.n:Int)>50)))]))=some [D.v (.bool (Ap (fun j=>decide (((r.R j 0).n:Int)>50)) (min r.n 20) 0||(decide ((r.n:Int)>20)||decide ((a.n:Int)>50))))];cases Ap (fun j=>decide (((r.R j 0).n:Int)>50)) (min r.n 20) 0<;>cases decide ((r.n:Int)>20)<;>rfl
 ·cases h
theorem den_fst:Den Tryz.prog 34 Acv:=Ag Agj fun ds rs h=>by
 unfold Acv at h;split at h
 ·rename_i r;simp only[A5,A6]at h;obtain⟨h0,rfl⟩:=h;have h0:=AD h0;refine(u32 r).trans ?_;rw[c_l32_iff.2 ⟨rfl,rfl,h0⟩,Aa];unfold Ef;show br (Ap (fun j=>r.I j 0 !=0) r.n 0) _ _=_;cases Ap (fun j=>r.I j 0 !=0) r.n 0<;>rfl
 ·cases h
def ksC:List CK:=[.int .i64,.slice [.int .i64],.slice [.int .i64]]
def ksP:List CK:=[.slice [.int .i64,.int .i64,.int .i64,.int .i64]]
def ksW:List CK:=[.slice [.int .i64,.int .i64]]
def ks3:List CK:=[.int .i64,.int .i64,.int .i64]
def Tf(k:Int)(ca pi:Row)(pc:Int)(wo gv aa fv:Row)(rr:Int)(lr lp:Row)(ld:Int)(ba pa:Row)(cl:Int):D:=.agg [.v (.int .u8 k),.slice ksC ca,.slice ksP pi,.v (.int .u8 pc),.slice ksW wo,.slice Ls gv,.slice FW aa,.slice Ls fv,.v (i64 rr),.slice FW lr,.slice FW lp,.v (i64 ld),.slice FW ba,.slice ks3 pa,.v (.int .u8 cl)]
end Go.Proofs.YtnljjjghpgdmoaaGreatDoor
namespace Go.Proofs.YtnljjjghpgdmoaaGreatDoor.Ld
open Go.Ev Go.RowKit
def Wt(w:World):Prop:=TabAt 2 Lib.deBruijn64tab w∧2<w.heap.size
theorem Wt.later{w w':World}(h:Wt w)(hb:Below w.heap.size w w'):Wt w':=⟨fun j hj=>by rw[hb.cell (p:=⟨2,j,none⟩) h.2];exact h.1 j hj,Nat.lt_of_lt_of_le h.2 hb.size⟩
set_option maxHeartbeats 1000000 in
theorem wC(x k idx:Nat)(w:World)(hx0:((x:Int)==0)=false)
  (key:IntKind.u64.wrap (bits BinOp.and IntKind.u64 (x:Int) (IntKind.u64.wrap (-(x:Int)))*285870213051353865)/288230376151711744=(idx:Int))
  (hi:idx<64) (hk:k<64) (hcell:w.cell? ⟨2,idx,none⟩=some (.int .u8 k)):
  Calls Tryz.prog 168 #[.int .u64 x] w fun e w'=>e=.returned (.int .i64 k)∧w'=w:=by
 go_enter Tryz.func168,Tryz.ntmps168
 go_wp2_with (simp only[key])
 go_ret
 exact⟨rfl,rfl⟩
def sS(x:Int):Int:=(Lib.ctz 64 x.toNat:Int)
def Ftz:FD
 |[.v (.int .u64 x)]=>some (decide (0<x)&&decide (x<18446744073709551616),[.v (i64 (sS x))])
 |_=>none
theorem Agv:DenW Tryz.prog Wt 168 Ftz:=PS (fun _ _ h hb=>h.later hb) fun ds rs h=>by
 unfold Ftz at h;split at h
 ·rename_i x;simp only[A5,A6,A2,A3]at h;obtain⟨⟨h0,h1⟩,rfl⟩:=h;refine⟨[.int .u64 x],[i64 (sS x)],rfl,rfl,fun y hy=>?_,fun y hy=>?_,fun w hw=>?_⟩
  ·rw[List.mem_singleton.1 hy];rfl
  ·rw[List.mem_singleton.1 hy];rfl
  ·obtain⟨x,rfl⟩:=Int.eq_ofNat_of_zero_le (Int.le_of_lt h0);obtain⟨hlow,hk⟩:=Lib.lowest_bit 64 x (by omega) (by omega);obtain⟨hi,htab⟩:=Lib.deBruijn64_at _ hk;have hcell:=hw.1 _ hi;rw[htab]at hcell;have:=wC x _ _ w (by simp;omega) (tz64_key x _ (by omega) (by omega) hlow) hi hk hcell;exact this
 ·cases h
def Ha:List CK:=[.int .i64]
end Go.Proofs.YtnljjjghpgdmoaaGreatDoor.Ld
namespace Go.Proofs.YtnljjjghpgdmoaaGreatDoor.Ld
open Go.Ev
set_option maxRecDepth 100000
def sl(i n:Nat):Value:=.slice (some ⟨i,0,some 0⟩) n 0
def Rb(own:Bool)(r:Row):Option Blk:=some (.row [.int .i64] own r)
def wi(n:Int):Int:=IntKind.i64.wrap n
def Bz(a b:Int):Int:=IntKind.i64.wrap ((BitVec.ofInt 64 a&&&BitVec.ofInt 64 b).toNat:Int)
def Hl(a b:Int):Int:=IntKind.i64.wrap ((BitVec.ofInt 64 a^^^BitVec.ofInt 64 b).toNat:Int)
def bOr(a b:Int):Int:=IntKind.i64.wrap ((BitVec.ofInt 64 a|||BitVec.ofInt 64 b).toNat:Int)
def Vp(a b:Int):Int:=a.fdiv (2^min b.toNat 64)
theorem ofI(a:Nat)(h:a<18446744073709551616):(BitVec.ofInt 64 (a:Int)).toNat=a:=by
 rw[BitVec.ofInt_natCast,BitVec.toNat_ofNat];exact Nat.mod_eq_of_lt h
theorem Tc{n:Int}(h1: -9223372036854775808<=n)(h2:n<=9223372036854775807):wi n=n:=wrap64 h1 h2
theorem QI(a b:Nat)(ha:a<9223372036854775808)(hb:b<18446744073709551616):Bz (a:Int) (b:Int)=((a&&&b:Nat):Int):=by
 unfold Bz;have h:a&&&b<=a:=Nat.and_le_left;rw[BitVec.toNat_and,ofI a (by omega),ofI b hb];exact wrap64 (by omega) (by omega)
theorem Xm(a b:Nat)(ha:a<9223372036854775808)(hb:b<9223372036854775808):Hl (a:Int) (b:Int)=((a^^^b:Nat):Int):=by
 unfold Hl;have h:a^^^b<2^63:=Nat.xor_lt_two_pow (by omega) (by omega);rw[BitVec.toNat_xor,ofI a (by omega),ofI b (by omega)];exact wrap64 (by omega) (by omega)
theorem Ako(a b:Nat)(ha:a<9223372036854775808)(hb:b<9223372036854775808):bOr (a:Int) (b:Int)=((a|||b:Nat):Int):=by
 unfold bOr;have h:a|||b<2^63:=Nat.or_lt_two_pow (by omega) (by omega);rw[BitVec.toNat_or,ofI a (by omega),ofI b (by omega)];exact wrap64 (by omega) (by omega)
theorem Ai4(a l:Nat)(hl:l<=64):Vp (a:Int) (l:Int)=((a>>>l:Nat):Int):=by
 unfold Vp;rw[A9,Nat.min_eq_left hl,Int.fdiv_eq_ediv_of_nonneg _ (Int.le_of_lt (Int.pow_pos (by decide))),Nat.shiftRight_eq_div_pow,Int.natCast_ediv,Int.natCast_pow];rfl
theorem Ya(a l:Nat)(ha:a<9223372036854775808)(hl:l<=64):(Bz (Vp (a:Int) (l:Int)) 1==1)=a.testBit l:=by
 have h1:a>>>l<=a:=by rw[Nat.shiftRight_eq_div_pow];exact Nat.div_le_self _ _
 have h2:=QI (a>>>l) 1 (by omega) (by omega);rw[Ai4 a l hl,show((1:Int))=((1:Nat):Int)from rfl,h2,Nat.and_one_is_mod];unfold Nat.testBit;rw[Nat.and_comm,Nat.and_one_is_mod];rcases Nat.mod_two_eq_zero_or_one (a>>>l)with h|h<;>rw[h]<;>rfl
def Zo(sm:Row)(s low g:Nat)(ou:Row):Row:=if g.testBit low=true∧g≠s∧sm.I g 0=0 then ou.setI s 0 (if wi (1+ou.I (s^^^g) 0)>ou.I s 0 then wi (1+ou.I (s^^^g) 0)else ou.I s 0)else ou
def KX(sm:Row)(s low:Nat):Nat->Nat->Row->Row
 |0,_,ou=>ou
 |n+1,g,ou=>if g=0 then ou else KX sm s low n ((g-1)&&&s) (Zo sm s low g ou)
def SV(nb N M:Nat)(s low g:Int)(b sm ou:Row):St:=⟨[sl 0 nb]++us 2++[sl 1 N,sl 2 M,i64 s,i64 low,i64 g]++us 83,[[]],[Rb false b,Rb true sm,Rb true ou]⟩
def uC(nb N M:Nat)(s:Int)(b sm ou:Row):St:=⟨[sl 0 nb]++us 2++[sl 1 N,sl 2 M,i64 s]++us 85,[[]],[Rb false b,Rb true sm,Rb true ou]⟩
def G11(cd:Nat->Nat->Nat->Int->Int->Int->Bool):List It->(X->St->OD)->OD
 |[.n nb,.n N,.n M,.i s,.i low,.i g,.r b,.r sm,.r ou],k=>br (cd nb N M s low g) (k (.exit 2) (uC nb N M s b sm (KX sm s.toNat low.toNat (g.toNat+1) g.toNat ou))) none
 |_,_=>none
def l11(cd:Nat->Nat->Nat->Int->Int->Int->Bool):LoopC where
 f:=88
 id:=11
 lv:=[0,3,4,5,6,7]
 lx:=[0,2,3,4,5]
 p:={τ:=[.v (.sl 0)]++pu 2++[.v (.sl 1),.v (.sl 2),.v (.int .i64),.v (.int .i64),.v (.int .i64)]++pu 83,saved:=[[]],mem:=[.row Ha false,.row Ha true,.row Ha true]}
 G:=G11 cd
def EZ(s:Nat):Nat:=Lib.ctz 64 s
def pM(b:Row)(s:Nat)(sm:Row):Row:=sm.setI s 0 (wi (sm.I (s&&&(s-1)) 0+b.I (EZ s) 0))
def ouU(b:Row)(s:Nat)(sm ou:Row):Row:=if(pM b s sm).I s 0≠0 then ou.setI s 0 (-1)else KX (pM b s sm) s (EZ s) (s+1) s ((ou.setI s 0 (-1)).setI s 0 1)
def RF(b:Row):Nat->Nat->Row->Row->Row
 |0,_,_,ou=>ou
 |m+1,s,sm,ou=>RF b m (s+1) (pM b s sm) (ouU b s sm ou)
def S3(nb N M:Nat)(s:Int)(b sm ou:Row):St:=⟨[sl 0 nb]++us 2++[sl 1 N,sl 2 M,i64 s]++us 85,[[]],[Rb false b,Rb true sm,Rb true ou]⟩
def S3x(M:Nat)(ou:Row):St:=⟨us 4++[sl 0 M]++us 86,[[]],[Rb true ou]⟩
def G3(cd:Nat->Nat->Nat->Bool):List It->(X->St->OD)->OD
 |[.n nb,.n N,.n M,.r b,.r sm,.r ou],k=>br (cd nb N M) (k (.exit 0) (S3x M (RF b (N-1) 1 sm ou))) none
 |_,_=>none
def l3(cd:Nat->Nat->Nat->Bool):LoopC where
 f:=88
 id:=3
 lv:=[0,3,4,5]
 lx:=[2,4]
 p:={τ:=[.v (.sl 0)]++pu 2++[.v (.sl 1),.v (.sl 2),.v (.c (i64 1))]++pu 85,saved:=[[]],mem:=[.row Ha false,.row Ha true,.row Ha true]}
 G:=G3 cd
noncomputable def C1g(c1:Nat->Nat->Nat->Int->Int->Int->Bool)(c2:Nat->Nat->Nat->Bool):Cx:=AU Tryz.prog fns [(168,Ftz)] [l11 c1,l3 c2]
theorem SI(c1:Nat->Nat->Nat->Int->Int->Int->Bool)(c2:Nat->Nat->Nat->Bool)(R:St->OD)(K:X->St->OD)(p nb N M:Nat)(s low g:Int)(b sm ou:Row):Au (C1g c1 c2) 88 true (inl (C1g c1 c2) (p+4)) (Bc (C1g c1 c2).P 88 11) (SV nb N M s low g b sm ou) (BI [0,3,4,5,6,7] (some [0,2,3,4,5]) R K)=br (g>0) (br (low<0) none (br (Bz (Vp g low) 1==1) (br (g !=s) (br (0<=g&&g<(N:Int)) (br (sm.I (0+g.toNat) 0==0) (br (0<=s&&s<(M:Int)) (br (0<=Hl s g&&Hl s g<(M:Int)) (br (0<=s&&s<(M:Int)) (R (SV nb N M s low (Bz (wi (g-1)) s) b sm (ou.setI (0+s.toNat) 0 (if wi (1+ou.I (0+(Hl s g).toNat) 0)>ou.I (0+s.toNat) 0 then wi (1+ou.I (0+(Hl s g).toNat) 0)else ou.I (0+s.toNat) 0)))) none) none) none) (R (SV nb N M s low (Bz (wi (g-1)) s) b sm ou))) none) (R (SV nb N M s low (Bz (wi (g-1)) s) b sm ou))) (R (SV nb N M s low (Bz (wi (g-1)) s) b sm ou)))) (K (.exit 2) (uC nb N M s b sm ou)):=by kernel_rfl
def Td(s:Int):Int:=sS (IntKind.u64.wrap s)
theorem Ach(c1:Nat->Nat->Nat->Int->Int->Int->Bool)(c2:Nat->Nat->Nat->Bool)(R:St->OD)(K:X->St->OD)(p nb N M:Nat)(s:Int)(b sm ou:Row):Au (C1g c1 c2) 88 true (inl (C1g c1 c2) (p+4)) (Bc (C1g c1 c2).P 88 3) (S3 nb N M s b sm ou) (BI [0,3,4,5] (some [2,4]) R K)=br (s<(M:Int)) (br (0<IntKind.u64.wrap s&&IntKind.u64.wrap s<18446744073709551616) (br (0<=Bz s (wi (s-1))&&Bz s (wi (s-1))<(N:Int)) (br (0<=Td s&&Td s<(nb:Int)) (br (0<=s&&s<(N:Int)) (br (0<=s&&s<(M:Int)) (br (0<=s&&s<(N:Int)) (br ((sm.setI (0+s.toNat) 0 (wi (sm.I (0+(Bz s (wi (s-1))).toNat) 0+b.I (0+(Td s).toNat) 0))).I (0+s.toNat) 0 !=0) (R (S3 nb N M (wi (s+1)) b (sm.setI (0+s.toNat) 0 (wi (sm.I (0+(Bz s (wi (s-1))).toNat) 0+b.I (0+(Td s).toNat) 0))) (ou.setI (0+s.toNat) 0 (-1)))) (br (0<=s&&s<(M:Int)) (br (c1 nb N M s (Td s) s) (R (S3 nb N M (wi (s+1)) b (sm.setI (0+s.toNat) 0 (wi (sm.I (0+(Bz s (wi (s-1))).toNat) 0+b.I (0+(Td s).toNat) 0))) (KX (sm.setI (0+s.toNat) 0 (wi (sm.I (0+(Bz s (wi (s-1))).toNat) 0+b.I (0+(Td s).toNat) 0))) s.toNat (Td s).toNat (s.toNat+1) s.toNat ((ou.setI (0+s.toNat) 0 (-1)).setI (0+s.toNat) 0 1)))) none) none)) none) none) none) none) none) none) (K (.exit 0) (S3x M ou)):=by kernel_rfl
def Sv(nb N M:Nat)(s low g:Int):Bool:=0<=s∧s<N∧N=M∧N=2^nb∧nb<=62∧0<=low∧low<=62∧g=s
def in3(nb N M:Nat):Bool:=N=2^nb∧N=M∧nb<=62
noncomputable def C1:Cx:=C1g Sv in3
theorem kQ{f:St->(X->St->OD)->OD}{lv:List Tmp}{lx:Option (List Tmp)}{nb N s low:Nat}{b sm:Row}
  (hr:∀(g:Int)(ou:Row) R K,f (SV nb N N s low g b sm ou) (BI lv lx R K)=
   br (decide (g>0)) (br (decide ((low:Int)<0)) none (br (Bz (Vp g low) 1==1) (br (g !=s) (br (decide (0<=g)&&decide (g<(N:Int))) (br (sm.I (0+g.toNat) 0==0) (br (decide (0<=(s:Int))&&decide ((s:Int)<(N:Int))) (br (decide (0<=Hl s g)&&decide (Hl s g<(N:Int))) (br (decide (0<=(s:Int))&&decide ((s:Int)<(N:Int)))
    (R (SV nb N N s low (Bz (wi (g-1)) s) b sm (ou.setI (0+(s:Int).toNat) 0 (if wi (1+ou.I (0+(Hl s g).toNat) 0)>ou.I (0+(s:Int).toNat) 0 then wi (1+ou.I (0+(Hl s g).toNat) 0)else ou.I (0+(s:Int).toNat) 0)))) none) none) none)
    (R (SV nb N N s low (Bz (wi (g-1)) s) b sm ou))) none) (R (SV nb N N s low (Bz (wi (g-1)) s) b sm ou))) (R (SV nb N N s low (Bz (wi (g-1)) s) b sm ou)))) (K (.exit 2) (uC nb N N s b sm ou)))
  (hN:N=2^nb) (hb:nb<=62) (hs:s<N) (hl:low<=62) (K:X->St->OD):
  ∀(n fu g:Nat)(ou:Row),g&&&s=g->g<n->n<=fu->rounds lv lx f fu (SV nb N N s low g b sm ou) K=K (.exit 2) (uC nb N N s b sm (KX sm s low n g ou))
 |n+1,fu+1,g,ou,h0,h1,h2=>by
  have hgs:g<=s:=by have:g&&&s<=s:=Nat.and_le_right;omega
  have hNN:N<=4611686018427387904:=by
   have:2^nb<=2^62:=Nat.pow_le_pow_right (by decide) hb;omega
  rw[Df,hr];unfold KX;by_cases hg:g=0
  ·rw[AM hg,AB (show¬(g:Int)>0 by omega),Ac]
  ·rw[AL hg,A4 (show(g:Int)>0 by omega),Aa,AB (show¬(low:Int)<0 by omega),Ac,Ya g low (by omega) (by omega)];have hx:s^^^g<N:=by rw[hN];exact Nat.xor_lt_two_pow (by omega) (by omega)
   have hnext:Bz (wi ((g:Int)-1)) (s:Int)=(((g-1)&&&s:Nat):Int):=by
    rw[Tc (by omega) (by omega),show(g:Int)-1=((g-1:Nat):Int) by omega];exact QI _ _ (by omega) (by omega)
   have hle:(g-1)&&&s<=g-1:=Nat.and_le_left;have hsub:((g-1)&&&s)&&&s=(g-1)&&&s:=by rw[Nat.and_assoc,Nat.and_self]
   have ih:=fun ou'=>kQ hr hN hb hs hl K n fu ((g-1)&&&s) ou' hsub (by omega) (by omega);rw[hnext,Xm s g (by omega) (by omega),A9,A9,A9,AE,AE,AE];unfold Zo;cases hbit:g.testBit low
   ·rw[Ac,AL (fun h=>by cases h.1)];exact ih ou
   ·rw[Aa];by_cases hgs':g=s
    ·rw[show((g:Int) !=(s:Int))=false by rw[hgs'];simp,Ac,AL (show¬(true=true∧g≠s∧sm.I g 0=0)from fun h=>h.2.1 hgs')];exact ih ou
    ·rw[show((g:Int) !=(s:Int))=true from bne_iff_ne.mpr (by omega),Aa,show(decide (0<=(g:Int))&&decide ((g:Int)<(N:Int)))=true by simp only[A2,A3];omega,Aa];by_cases hz:sm.I g 0=0
     ·rw[show(sm.I g 0==0)=true by simpa using hz,Aa,show(decide (0<=(s:Int))&&decide ((s:Int)<(N:Int)))=true by simp only[A2,A3];omega,Aa,
       show(decide (0<=((s^^^g:Nat):Int))&&decide (((s^^^g:Nat):Int)<(N:Int)))=true by simp only[A2,A3];omega,Aa,Aa,AM (show true=true∧g≠s∧sm.I g 0=0 from⟨rfl,hgs',hz⟩)]
      exact ih _
     ·rw[show(sm.I g 0==0)=false by simpa using hz,Ac,AL (show¬(true=true∧g≠s∧sm.I g 0=0)from fun h=>hz h.2.2)];exact ih ou
theorem Aef:Ai C1 (l11 Sv):=⟨by kernel_rfl,fun q its k rr h=>by
 show rounds [0,3,4,5,6,7] (some [0,2,3,4,5]) (Au C1 88 true (inl C1 (q+4)) (Bc C1.P 88 11)) 18446744073709551616 (bst (l11 Sv).p its) k=some rr;change G11 Sv its k=some rr at h;unfold G11 at h;split at h
 ·rename_i nb N M s low g b sm ou;rcases CO h with⟨h1,h2⟩|⟨_,h2⟩
  ·obtain⟨k1,k2,k3,k4,k5,k6,k7,k8⟩:=AD h1;obtain⟨s,rfl⟩:=Int.eq_ofNat_of_zero_le k1;obtain⟨low,rfl⟩:=Int.eq_ofNat_of_zero_le k6;subst k3;subst k8;rw[<-h2,A9,A9];have hp:2^nb<=2^62:=Nat.pow_le_pow_right (by decide) k5;exact kQ (fun g ou R K=>SI Sv in3 R K q nb N N s low g b sm ou) k4 k5 (by omega) (by omega) k (s+1) 18446744073709551616 s ou (Nat.and_self s) (by omega) (by omega)
  ·cases h2
 ·cases h⟩
theorem dP(s nb:Nat)(h0:0<s)(h1:s<2^nb)(h2:nb<=62):EZ s<nb:=by
 have hp:2^nb<=2^62:=Nat.pow_le_pow_right (by decide) h2;obtain⟨hlow,hk⟩:=Lib.lowest_bit 64 s (by omega) (by omega);have:s&&&(2^64-s)<=s:=Nat.and_le_left;rw[hlow]at this;unfold EZ;exact(Nat.pow_lt_pow_iff_right (by decide)).1 (Nat.lt_of_le_of_lt this h1)
theorem Aki(s:Nat)(h:s<9223372036854775808):Td (s:Int)=(EZ s:Int):=by
 unfold Td sS EZ;rw[show IntKind.u64.wrap (s:Int)=s from Le (by simp[Lit.wf,IntKind.min,IntKind.max,IntKind.signed,IntKind.bits];omega),A9]
theorem go3{f:St->(X->St->OD)->OD}{lv:List Tmp}{lx:Option (List Tmp)}{nb N:Nat}{b:Row}
  (hr:∀(s:Int)(sm ou:Row) R K,f (S3 nb N N s b sm ou) (BI lv lx R K)=
   br (decide (s<(N:Int))) (br (decide (0<IntKind.u64.wrap s)&&decide (IntKind.u64.wrap s<18446744073709551616)) (br (decide (0<=Bz s (wi (s-1)))&&decide (Bz s (wi (s-1))<(N:Int))) (br (decide (0<=Td s)&&decide (Td s<(nb:Int))) (br (decide (0<=s)&&decide (s<(N:Int))) (br (decide (0<=s)&&decide (s<(N:Int))) (br (decide (0<=s)&&decide (s<(N:Int)))
    (br ((sm.setI (0+s.toNat) 0 (wi (sm.I (0+(Bz s (wi (s-1))).toNat) 0+b.I (0+(Td s).toNat) 0))).I (0+s.toNat) 0 !=0)
     (R (S3 nb N N (wi (s+1)) b (sm.setI (0+s.toNat) 0 (wi (sm.I (0+(Bz s (wi (s-1))).toNat) 0+b.I (0+(Td s).toNat) 0))) (ou.setI (0+s.toNat) 0 (-1))))
     (br (decide (0<=s)&&decide (s<(N:Int))) (br (Sv nb N N s (Td s) s)
      (R (S3 nb N N (wi (s+1)) b (sm.setI (0+s.toNat) 0 (wi (sm.I (0+(Bz s (wi (s-1))).toNat) 0+b.I (0+(Td s).toNat) 0))) (KX (sm.setI (0+s.toNat) 0 (wi (sm.I (0+(Bz s (wi (s-1))).toNat) 0+b.I (0+(Td s).toNat) 0))) s.toNat (Td s).toNat (s.toNat+1) s.toNat ((ou.setI (0+s.toNat) 0 (-1)).setI (0+s.toNat) 0 1)))) none) none)) none) none) none) none) none) none) (K (.exit 0) (S3x N ou)))
  (hN:N=2^nb) (hb:nb<=62) (K:X->St->OD):
  ∀(m fu s:Nat)(sm ou:Row),s+m=N->0<s->m<fu->rounds lv lx f fu (S3 nb N N s b sm ou) K=K (.exit 0) (S3x N (RF b m s sm ou))
 |0,fu+1,s,sm,ou,h0,h1,h2=>by
  rw[Df,hr,AB (show¬(s:Int)<(N:Int) by omega),Ac];rfl
 |m+1,fu+1,s,sm,ou,h0,h1,h2=>by
  have hNN:N<=4611686018427387904:=by
   have:2^nb<=2^62:=Nat.pow_le_pow_right (by decide) hb;omega
  have hctz:=dP s nb h1 (by omega) hb;have hw:IntKind.u64.wrap (s:Int)=s:=Le (by simp[Lit.wf,IntKind.min,IntKind.max,IntKind.signed,IntKind.bits];omega);have hand:Bz (s:Int) (wi ((s:Int)-1))=((s&&&(s-1):Nat):Int):=by
   rw[Tc (by omega) (by omega),show(s:Int)-1=((s-1:Nat):Int) by omega];exact QI _ _ (by omega) (by omega)
  have hle:s&&&(s-1)<=s-1:=Nat.and_le_right;have ih:=go3 hr hN hb K m fu (s+1) (pM b s sm) (ouU b s sm ou) (by omega) (by omega) (by omega);have hin:Sv nb N N s (EZ s:Int) s=true:=A4 ⟨by omega,by omega,rfl,hN,hb,by omega,by omega,rfl⟩;have hs:(decide (0<=(s:Int))&&decide ((s:Int)<(N:Int)))=true:=by simp only[A2,A3];omega
  rw[Df,hr,hw,hand,Aki s (by omega),hin,hs,Tc (n:=(s:Int)+1) (by omega) (by omega),show(s:Int)+1=((s+1:Nat):Int) by omega,A4 (show(s:Int)<(N:Int) by omega),
   show(decide (0<(s:Int))&&decide ((s:Int)<18446744073709551616))=true by simp only[A2,A3];omega,
   show(decide (0<=((s&&&(s-1):Nat):Int))&&decide (((s&&&(s-1):Nat):Int)<(N:Int)))=true by simp only[A2,A3];omega,
   show(decide (0<=(EZ s:Int))&&decide ((EZ s:Int)<(nb:Int)))=true by simp only[A2,A3];omega]
  rw[Aa,Aa,Aa,Aa,Aa,Aa,Aa,Aa,Aa,A9,A9,A9,AE,AE,AE];unfold RF;rw[<-ih];unfold ouU;by_cases hz:(pM b s sm).I s 0=0
  ·rw[AL (fun h=>h hz),show((sm.setI s 0 (wi (sm.I (s&&&(s-1)) 0+b.I (EZ s) 0))).I s 0 !=0)=false by rw[show(sm.setI s 0 (wi (sm.I (s&&&(s-1)) 0+b.I (EZ s) 0))).I s 0=0 from hz];rfl,Ac];rfl
  ·rw[AM hz,show((sm.setI s 0 (wi (sm.I (s&&&(s-1)) 0+b.I (EZ s) 0))).I s 0 !=0)=true from bne_iff_ne.mpr hz,Aa];rfl
theorem Ai8:Ai C1 (l3 in3):=⟨by kernel_rfl,fun q its k rr h=>by
 show rounds [0,3,4,5] (some [2,4]) (Au C1 88 true (inl C1 (q+4)) (Bc C1.P 88 3)) 18446744073709551616 (bst (l3 in3).p its) k=some rr;change G3 in3 its k=some rr at h;unfold G3 at h;split at h
 ·rename_i nb N M b sm ou;rcases CO h with⟨h1,h2⟩|⟨_,h2⟩
  ·obtain⟨k1,k2,k3⟩:=AD h1;subst k2;rw[<-h2];have hp:2^nb<=2^62:=Nat.pow_le_pow_right (by decide) k3;have h0:0<2^nb:=Nat.two_pow_pos nb;exact go3 (fun s sm ou R K=>Ach Sv in3 R K q nb N N s b sm ou) k1 k3 k (N-1) 18446744073709551616 1 sm ou (by omega) (by omega) (by omega)
  ·cases h2
 ·cases h⟩
theorem XN:P8 C1 Wt:=CP enter mixed (fun p h=>by
 simp only[A8,A7,or_false]at h;rcases h with rfl;exact Agv) (fun l h=>by
 simp only[A8,A7,or_false]at h;rcases h with rfl|rfl
 ·exact Aef
 ·exact Ai8)
def nSz(b:Row):Nat:=(wi (1*2^min (b.n:Int).toNat 64)).toNat
theorem Aig(c1:Nat->Nat->Nat->Int->Int->Int->Bool)(c2:Nat->Nat->Nat->Bool)(b:Row):BZ (C1g c1 c2) 6 88 [.slice Ha b]=br (0<=wi (1*2^min (b.n:Int).toNat 64)&&wi (1*2^min (b.n:Int).toNat 64)<=wi (1*2^min (b.n:Int).toNat 64)&&wi (1*2^min (b.n:Int).toNat 64)<=100000000000) (br (0<=wi (1*2^min (b.n:Int).toNat 64)&&wi (1*2^min (b.n:Int).toNat 64)<=wi (1*2^min (b.n:Int).toNat 64)&&wi (1*2^min (b.n:Int).toNat 64)<=100000000000) (br (c2 b.n (nSz b) (nSz b)) (some [.slice Ha (w_ (RF b (nSz b-1) 1 (Row.zeros (nSz b)) (Row.zeros (nSz b))) 0 (nSz b))]) none) none) none:=by kernel_rfl
def Fg(b:Row):Row:=w_ (RF b (2^b.n-1) 1 (Row.zeros (2^b.n)) (Row.zeros (2^b.n))) 0 (2^b.n)
def kL:FD
 |[.slice [.int .i64] b]=>some (b.n<=20,[.slice Ha (Fg b)])
 |_=>none
theorem Afg{b:Row}(h:b.n<=20):wi (1*2^min (b.n:Int).toNat 64)=((2^b.n:Nat):Int):=by
 have hp:2^b.n<=2^20:=Nat.pow_le_pow_right (by decide) h;rw[A9,Nat.min_eq_left (by omega),Int.one_mul,show(2:Int)^b.n=((2^b.n:Nat):Int) by rw[Int.natCast_pow];rfl];generalize 2^b.n=N at hp⊢;exact Tc (by omega) (by omega)
theorem oH:DenW Tryz.prog Wt 88 kL:=DR XN fun ds rs h=>by
 unfold kL at h;split at h
 ·rename_i b;simp only[A5,A6,A3]at h;obtain⟨h0,rfl⟩:=h;refine(Aig Sv in3 b).trans ?_;have e:=Afg h0;have hp:2^b.n<=2^20:=Nat.pow_le_pow_right (by decide) h0;unfold nSz;have hc:∀N:Nat,N<=2^20->(decide (0<=(N:Int))&&decide ((N:Int)<=(N:Int))&&decide ((N:Int)<=100000000000))=true:=fun N hN=>by simp only[A2,A3];omega
  rw[e,A9,hc _ hp,Aa,Aa,
   show in3 b.n (2^b.n) (2^b.n)=true from A4 ⟨rfl,rfl,by omega⟩,Aa]
  rfl
 ·cases h
def UV(b:Row):Nat->Nat->Int->Bool×Int
 |0,_,s=>(false,s)
 |m+1,j,s=>if b.I j 0< -1000000000∨b.I j 0>1000000000 then(true,s)else UV b m (j+1) (wi (s+b.I j 0))
def S6(n:Nat)(sum j:Int)(b:Row):St:=⟨us 4++[i64 sum]++us 8++[sl 0 n,i64 n,i64 j]++us 15,[[]],[Rb false b]⟩
def S6r(sum:Int):St:=⟨us 2++[i64 8]++us 1++[i64 sum]++us 26,[[]],[]⟩
def S6x(sum:Int):St:=⟨us 4++[i64 sum]++us 26,[[]],[]⟩
def G6(cd:Nat->Int->Bool):List It->(X->St->OD)->OD
 |[.n n,.i n',.r b],k=>br (cd n n') (br (UV b n 0 0).1 (k .ret (S6r (UV b n 0 0).2)) (k (.exit 0) (S6x (UV b n 0 0).2))) none
 |_,_=>none
def l6(cd:Nat->Int->Bool):LoopC where
 f:=87
 id:=6
 lv:=[4,13,14,15]
 lx:=[2,4]
 p:={τ:=pu 4++[.v (.c (i64 0))]++pu 8++[.v (.sl 0),.v (.int .i64),.v (.c (i64 0))]++pu 15,saved:=[[]],mem:=[.row Ha false]}
 G:=G6 cd
def S5(n:Nat)(sum j:Int)(b:Row):St:=⟨[sl 0 n]++us 2++[i64 sum,i64 j]++us 30,[[]],[Rb false b]⟩
def S5r(sum:Int):St:=⟨us 2++[i64 8,i64 sum]++us 31,[[]],[]⟩
def S5x(sum:Int):St:=⟨us 3++[i64 sum]++us 31,[[]],[]⟩
def G5(cd:Nat->Int->Bool):List It->(X->St->OD)->OD
 |[.n n,.r b],k=>br (cd n n) (br (UV b n 0 0).1 (k .ret (S5r (UV b n 0 0).2)) (k (.exit 0) (S5x (UV b n 0 0).2))) none
 |_,_=>none
def l5(cd:Nat->Int->Bool):LoopC where
 f:=48
 id:=5
 lv:=[0,3,4]
 lx:=[2,3]
 p:={τ:=[.v (.sl 0)]++pu 2++[.v (.c (i64 0)),.v (.c (i64 0))]++pu 30,saved:=[[]],mem:=[.row Ha false]}
 G:=G5 cd
noncomputable def C2g(cd:Nat->Int->Bool):Cx:=AU Tryz.prog fns [] [l6 cd,l5 cd]
theorem Aem(cd:Nat->Int->Bool)(R:St->OD)(K:X->St->OD)(p n:Nat)(sum j:Int)(b:Row):Au (C2g cd) 87 true (inl (C2g cd) (p+4)) (Bc (C2g cd).P 87 6) (S6 n sum j b) (BI [4,13,14,15] (some [2,4]) R K)=br (j<(n:Int)) (br (0<=j&&j<(n:Int)) (br (b.I (0+j.toNat) 0< -1000000000) (K .ret (S6r sum)) (br (b.I (0+j.toNat) 0>1000000000) (K .ret (S6r sum)) (R (S6 n (wi (sum+b.I (0+j.toNat) 0)) (wi (j+1)) b)))) none) (K (.exit 0) (S6x sum)):=by kernel_rfl
theorem Agg(cd:Nat->Int->Bool)(R:St->OD)(K:X->St->OD)(p n:Nat)(sum j:Int)(b:Row):Au (C2g cd) 48 true (inl (C2g cd) (p+4)) (Bc (C2g cd).P 48 5) (S5 n sum j b) (BI [0,3,4] (some [2,3]) R K)=br (j<(n:Int)) (br (0<=j&&j<(n:Int)) (br (b.I (0+j.toNat) 0< -1000000000) (K .ret (S5r sum)) (br (0<=j&&j<(n:Int)) (br (b.I (0+j.toNat) 0>1000000000) (K .ret (S5r sum)) (br (0<=j&&j<(n:Int)) (R (S5 n (wi (sum+b.I (0+j.toNat) 0)) (wi (j+1)) b)) none)) none)) none) (K (.exit 0) (S5x sum)):=by kernel_rfl
def Oq(n:Nat)(m:Int):Bool:=m=n∧n<=1000
noncomputable def C2:Cx:=C2g Oq
theorem go6{f:St->(X->St->OD)->OD}{lv:List Tmp}{lx:Option (List Tmp)}{S:Int->Int->St}{Sr Sx:Int->St}{n:Nat}{b:Row}(hn:n<=1000)
  (hr:∀(sum:Int)(j:Nat) R K,f (S sum j) (BI lv lx R K)=if j<n then(if b.I j 0< -1000000000∨b.I j 0>1000000000 then K .ret (Sr sum)else R (S (wi (sum+b.I j 0)) (j+1:Nat)))else K (.exit 0) (Sx sum)) (K:X->St->OD):
  ∀(m fu j:Nat)(s:Int),j+m=n->m<fu->rounds lv lx f fu (S s j) K=br (UV b m j s).1 (K .ret (Sr (UV b m j s).2)) (K (.exit 0) (Sx (UV b m j s).2))
 |0,fu+1,j,s,h0,h1=>by
  rw[Df,hr,AL (by omega)];rfl
 |m+1,fu+1,j,s,h0,h1=>by
  rw[Df,hr,AM (by omega)];unfold UV;by_cases hb:b.I j 0< -1000000000∨b.I j 0>1000000000
  ·rw[AM hb,AM hb];rfl
  ·rw[AL hb,AL hb];exact go6 hn hr K m fu (j+1) _ (by omega) (by omega)
theorem Ajs:Ai C2 (l6 Oq):=⟨by kernel_rfl,fun q its k rr h=>by
 show rounds [4,13,14,15] (some [2,4]) (Au C2 87 true (inl C2 (q+4)) (Bc C2.P 87 6)) 18446744073709551616 (bst (l6 Oq).p its) k=some rr;change G6 Oq its k=some rr at h;unfold G6 at h;split at h
 ·rename_i n n' b;rcases CO h with⟨h1,h2⟩|⟨_,h2⟩
  ·obtain⟨k1,k2⟩:=AD h1;subst k1;rw[<-h2];exact go6 (S:=fun s j=>S6 n s j b) (Sr:=S6r) (Sx:=S6x) k2 (fun sum j R K=>by
    refine(Aem Oq R K q n sum j b).trans ?_;by_cases hj:j<n
    ·rw[AM hj,A4 (show(j:Int)<(n:Int) by omega),Aa,A4 (show(0:Int)<=(j:Int) by omega),show(true&&true)=true from rfl,Aa,A9,AE,Tc (n:=(j:Int)+1) (by omega) (by omega)];by_cases h1:b.I j 0< -1000000000
     ·rw[A4 h1,Aa,AM (.inl h1)]
     ·rw[AB h1,Ac];by_cases h2:b.I j 0>1000000000
      ·rw[A4 h2,Aa,AM (.inr h2)]
      ·rw[AB h2,Ac,AL (by omega)];rfl
    ·rw[AL hj,AB (show¬(j:Int)<(n:Int) by omega),Ac]) k n 18446744073709551616 0 0 (by omega) (by omega)
  ·cases h2
 ·cases h⟩
theorem Ajo:Ai C2 (l5 Oq):=⟨by kernel_rfl,fun q its k rr h=>by
 show rounds [0,3,4] (some [2,3]) (Au C2 48 true (inl C2 (q+4)) (Bc C2.P 48 5)) 18446744073709551616 (bst (l5 Oq).p its) k=some rr;change G5 Oq its k=some rr at h;unfold G5 at h;split at h
 ·rename_i n b;rcases CO h with⟨h1,h2⟩|⟨_,h2⟩
  ·obtain⟨_,k2⟩:=AD h1;rw[<-h2];exact go6 (S:=fun s j=>S5 n s j b) (Sr:=S5r) (Sx:=S5x) k2 (fun sum j R K=>by
    refine(Agg Oq R K q n sum j b).trans ?_;by_cases hj:j<n
    ·rw[AM hj,A4 (show(j:Int)<(n:Int) by omega),Aa,A4 (show(0:Int)<=(j:Int) by omega),show(true&&true)=true from rfl,Aa,Aa,Aa,A9,AE,Tc (n:=(j:Int)+1) (by omega) (by omega)];by_cases h1:b.I j 0< -1000000000
     ·rw[A4 h1,Aa,AM (.inl h1)]
     ·rw[AB h1,Ac];by_cases h2:b.I j 0>1000000000
      ·rw[A4 h2,Aa,AM (.inr h2)]
      ·rw[AB h2,Ac,AL (by omega)];rfl
    ·rw[AL hj,AB (show¬(j:Int)<(n:Int) by omega),Ac]) k n 18446744073709551616 0 0 (by omega) (by omega)
  ·cases h2
 ·cases h⟩
theorem WN:Bi C2:=Aq enter mixed (fun p h=>by cases h) (fun l h=>by
 simp only[A8,A7,or_false]at h;rcases h with rfl|rfl
 ·exact Ajs
 ·exact Ajo)
def ckB(b:Row):Bool:=(UV b b.n 0 0).1
def ckS(b:Row):Int:=(UV b b.n 0 0).2
def ckE(b:Row):Int:=if b.n<1∨10<b.n then 2 else if ckB b=true∨ckS b≠0 then 8 else 0
def Fck:FD
 |[.slice [.int .i64] b]=>some (true,[.v (i64 (ckE b))])
 |_=>none
theorem VK(cd:Nat->Int->Bool)(b:Row):BZ (C2g cd) 6 87 [.slice Ha b]=br ((b.n:Int)<1) (some [.v (i64 2)]) (br ((b.n:Int)>10) (some [.v (i64 2)]) (br (cd b.n b.n) (br (ckB b) (some [.v (i64 8)]) (br (ckS b !=0) (some [.v (i64 8)]) (some [.v (i64 0)]))) none)):=by kernel_rfl
theorem uV(b:Row)(h:¬(b.n<1∨10<b.n)):br (ckB b) (some [D.v (i64 8)]) (br (ckS b !=0) (some [.v (i64 8)]) (some [.v (i64 0)]))=some [.v (i64 (ckE b))]:=by
 unfold ckE;rw[AL h];cases hb:ckB b
 ·by_cases hs:ckS b=0
  ·rw[Ac,show(ckS b !=0)=false by simpa using hs,Ac,AL (by rintro(h|h);exact absurd h (by decide);exact h hs)]
  ·rw[Ac,show(ckS b !=0)=true by simpa using hs,Aa,AM (.inr hs)]
 ·rw[Aa,AM (.inl rfl)]
theorem den_ck:Den Tryz.prog 87 Fck:=Ag WN fun ds rs h=>by
 unfold Fck at h;split at h
 ·rename_i b;simp only[A5,A6,true_and]at h;subst h;refine(VK Oq b).trans ?_;by_cases h1:(b.n:Int)<1
  ·rw[A4 h1,Aa];unfold ckE;rw[AM (by omega)]
  ·rw[AB h1,Ac];by_cases h2:(b.n:Int)>10
   ·rw[A4 h2,Aa];unfold ckE;rw[AM (by omega)]
   ·rw[AB h2,Ac,show Oq b.n b.n=true from A4 ⟨rfl,by omega⟩,Aa,uV b (by omega)]
 ·cases h
end Go.Proofs.YtnljjjghpgdmoaaGreatDoor.Ld

/- A part of the proof of PrintTexts. No conditions. -/
import Derived.Test.YtnljjjghpgdmoaaGreatDoorXaf
import Derived.Test.YtnljjjghpgdmoaaGreatDoorRows
import Derived.Shelf.Spec.TrailingZeros
import Derived.WalkKit
set_option linter.all false
namespace Go.Ev
def anyF_iff{p:Nat->Bool}:∀{m j:Nat},Ag p m j=true↔∃i,j<=i∧i<j+m∧p i=true
 |0,j=>by simp only[Ag,Bool.false_eq_true,false_iff];rintro⟨i,h1,h2,_⟩;omega
 |m+1,j=>by
  simp only[Ag,Bool.or_eq_true,anyF_iff (m:=m)];constructor
  ·rintro(h|⟨i,h1,h2,h3⟩)
   ·exact⟨j,AC _,o_,h⟩
   ·exact⟨i,o_,o_,h3⟩
  ·rintro⟨i,h1,h2,h3⟩;by_cases h:i=j
   ·exact .inl (h▸h3)
   ·exact .inr ⟨i,o_,o_,h3⟩
def inB(n lo hi:Int):Bool:=decide (lo<=n)&&decide (n<=hi)
def inB_iff{n lo hi:Int}:inB n lo hi=true↔lo<=n∧n<=hi:=by simp[inB]
def us(n:Nat):List Value:=List.replicate n unk
def pu(n:Nat):List PV:=List.replicate n (.v .u)
def i64(n:Int):Value:=.int .i64 n
def Vf{α:Type}{b:Bool}{x y:Option α}{z:Option α}(h1:b=true->x=z)(h2:¬b=true->y=z):br b x y=z:=by
 cases b
 ·exact h2 y_
 ·exact h1 rfl
def Ha{p:Prop}[Decidable p]{α:Type}{x y:Option α}{z:Option α}(h1:p->x=z)(h2:¬p->y=z):br (decide p) x y=z:=Vf (fun h=>h1 (AD h)) (fun h=>h2 fun hp=>h (A4 hp))
def Den.less{P:Program}{f:FuncId}{F F':FD}(h:Den P f F)(hl:∀ds rs,F' ds=some (true,rs)->F ds=some (true,rs)):Den P f F':=fun wb ds rs h1=>h wb ds rs (hl ds rs h1)
def DenW.less{P:Program}{W:World->Prop}{f:FuncId}{F F':FD}(h:DenW P W f F)(hl:∀ds rs,F' ds=some (true,rs)->F ds=some (true,rs)):DenW P W f F':=fun wb hw ds rs h1=>h wb hw ds rs (hl ds rs h1)
def DF{α:Type}(lv:List Tmp)(lx:Option (List Tmp))(f:St->(X->St->Option α)->Option α)(n:Nat)(σ:St)(K:X->St->Option α):
  rounds lv lx f (n+1) σ K=f σ (BF lv lx (fun σ1=>rounds lv lx f n σ1 K) K):=rfl
def wf8{n:Int}(h:(Lit.int .u8 n).wf=true):(decide (0<=n)&&decide (n<=255))=true:=by
 simp only[Lit.wf,A2,IntKind.min,IntKind.max,IntKind.signed,IntKind.bits]at h;simp only[A2,A3];simp at h;omega
section
variable{γ:Type}{e:γ->Nat->Int}{nx:γ->Nat->γ}
end
def Jf(r:Row)(e n j k:Nat):(w_ r e n).I j k=r.I (e+j) k:=by
 cases e
 ·show r.I j k=r.I (0+j) k;rw[AE]
 ·rfl
open Go.RowKit
def FK(own:Bool):∀(xs:List Value)(m:M_),(∀x∈xs,Di x=true)->AU own (xs.map D.v) m=some (xs,m)
 |[],_,_=>rfl
 |x::xs,m,h=>by
  have h1:fromD own m (D.v x)=some (x,m):=by
   simp only[fromD,Bj,h x y_]
  simp only[List.map_cons,AU,h1,FK own xs m fun y hy=>h y (by simp[hy])]
def Qi{P:Program}{W:World->Prop}(hst:∀w w',W w->Below w.heap.size w w'->W w'){f:FuncId}{F:FD}
  (h:∀ds rs,F ds=some (true,rs)->∃xs vs:List Value,ds=xs.map D.v∧rs=vs.map D.v∧(∀x∈xs,Di x=true)∧(∀v∈vs,Di v=true)∧∀w,W w->Calls P f ⟨xs⟩ w fun e w'=>e=.returned (tupV vs)∧w'=w):DenW P W f F:=by
 intro wb hwb ds rs hF w hbw args vs' mem ρ hfrom _ hl hv;obtain⟨xs,vs,rfl,rfl,hx,hvv,hc⟩:=h ds rs hF;rw[FK false xs [] hx]at hfrom;simp only[A5,A6]at hfrom;obtain⟨e1,e2⟩:=hfrom;subst e1;subst e2;have hargs:args=xs:=by
  apply List.ext_getElem?;intro i;by_cases hi:i<xs.length
  ·have h1:xs[i]? =some xs[i]:=AK hi;have h2:args[i]? =some args[i]:=AK o_;rw[h1,h2,(hv i _ _ h1 h2).atom1_eq (hx _ (List.getElem_mem hi))]
  ·rw[List.getElem?_eq_none o_,List.getElem?_eq_none o_]
 subst hargs;refine(hc w (hst wb w hwb hbw)).mono fun e w' ⟨he,hw⟩=>?_;subst hw;exact⟨tupV vs,he,Below.refl _ _,vs,[],fun _=>none,FK true vs [] hvv,⟨fun id b h=>by simp at h,fun _ _=>rfl,fun i j b h=>by obtain⟨_,_,h1,_⟩:=h;cases h1⟩,V.ofPlain fun v hv'=>MQ (hvv v hv')⟩
mutual
inductive RdA:List CK->Row->Row->Prop
 |mk{ks:List CK}{r r':Row}(hn:r.n=r'.n)(h:∀e j k,e<r.n->ks[j]? =some k->PX k r r' e j):RdA ks r r'
inductive PX:CK->Row->Row->Nat->Nat->Prop
 |int{k:IntKind}{r r':Row}{e j:Nat}:r.I e j=r'.I e j->PX (.int k) r r' e j
 |bool{r r':Row}{e j:Nat}:r.B e j=r'.B e j->PX .bool r r' e j
 |str{r r':Row}{e j:Nat}:r.S e j=r'.S e j->PX .str r r' e j
 |slice{sub:List CK}{r r':Row}{e j:Nat}:RdA sub (r.R e j) (r'.R e j)->PX (.slice sub) r r' e j
 |other{r r':Row}{e j:Nat}:PX .other r r' e j
end
def RdA.hn{ks:List CK}{r r':Row}(h:RdA ks r r'):r.n=r'.n:=by cases h with|mk hn _=>exact hn
def Rds.alike{ok:Nat->Prop}{w:World}{ks:List CK}{r r':Row}{b off:Nat}(h:Rds ok w ks r b off)(ha:RdA ks r r'):Rds ok w ks r' b off:=by
 refine Rds.rec (ok:=ok) (w:=w) (motive_1:=fun ks r b off _=>∀r',RdA ks r r'->Rds ok w ks r' b off) (motive_2:=fun k r e j v _=>∀r',PX k r r' e j->CellR ok w k r' e j v) ?_ ?_ ?_ ?_ ?_ ?_ h r' ha
 ·intro ks r b off v h1 _ ih r' ha;cases ha with
  |mk hn h=>exact .mk v (fun e j k he hk=>h1 e j k o_ hk) (fun e j k he hk=>ih e j k o_ hk r' (h e j k o_ hk))
 ·intro k r e j r' ha;cases ha with
  |int h=>rw[h];exact .int
 ·intro r e j r' ha;cases ha with
  |bool h=>rw[h];exact .bool
 ·intro r e j r' ha;cases ha with
  |str h=>rw[h];exact .str
 ·intro sub r e j a cap h1 r' ha;cases ha with
  |slice h=>exact .slice0 (h.hn.symm.trans h1)
 ·intro sub r e j b off n cap h1 h2 h3 _ ih r' ha;cases ha with
  |slice h=>exact .slice (h.hn.symm.trans h1) h2 h3 (ih _ h)
def RdA.refl(r:Row):∀ks,RdA ks r r:=by
 induction r with
 |nil=>exact fun ks=>.mk rfl fun e j k he _=>absurd he (Nat.not_lt_zero _)
 |mk n I B S R ih=>
  intro ks;refine .mk rfl fun e j k _ _=>?_;cases k with
  |int k=>exact .int rfl
  |bool=>exact .bool rfl
  |str=>exact .str rfl
  |slice sub=>exact .slice (ih e j sub)
  |other=>exact .other
def I7:Nat->List CK->Row->Row
 |0,_,r=>r
 |d+1,ks,r=>.mk r.n (fun e j=>match ks[j]? with|some (.int _)=>bif Nat.blt e r.n then r.I e j else 0|_=>0) (fun e j=>match ks[j]? with|some .bool=>bif Nat.blt e r.n then r.B e j else false|_=>false)
  (fun e j=>match ks[j]? with|some .str=>bif Nat.blt e r.n then r.S e j else .empty|_=>.empty) (fun e j=>match ks[j]? with|some (.slice sub)=>bif Nat.blt e r.n then I7 d sub (r.R e j)else .nil|_=>.nil)
def BQ:∀(d:Nat)(ks:List CK)(r:Row),RdA ks r (I7 d ks r)
 |0,ks,r=>RdA.refl r ks
 |d+1,ks,r=>.mk rfl fun e j k he hk=>by
  have hb:Nat.blt e r.n=true:=by rw[Nat.blt_eq];exact he
  cases k with
  |int k=>exact .int (by show _=(match ks[j]? with|some (.int _)=>bif Nat.blt e r.n then r.I e j else 0|_=>0);rw[hk,hb];rfl)
  |bool=>exact .bool (by show _=(match ks[j]? with|some .bool=>bif Nat.blt e r.n then r.B e j else false|_=>false);rw[hk,hb];rfl)
  |str=>exact .str (by show _=(match ks[j]? with|some .str=>bif Nat.blt e r.n then r.S e j else .empty|_=>.empty);rw[hk,hb];rfl)
  |slice sub=>
   refine .slice ?_;show RdA sub (r.R e j) (match ks[j]? with|some (.slice sub)=>bif Nat.blt e r.n then I7 d sub (r.R e j)else .nil|_=>.nil)
   rw[hk,hb];exact BQ d sub (r.R e j)
  |other=>exact .other
def dK:Nat->List CK->Bool
 |0,_=>false
 |d+1,ks=>ks.all fun k=>match k with|.slice s=>dK d s|_=>true
def ED:∀(d:Nat)(ks:List CK)(r r':Row),dK d ks=true->RdA ks r r'->I7 d ks r=I7 d ks r'
 |0,_,_,_,h,_=>by cases h
 |d+1,ks,r,r',hd,ha=>by
  cases ha with
  |mk hn hh=>
   have e1:∀e,e<r.n->Nat.blt e r.n=true:=fun e he=>by rw[Nat.blt_eq];exact he
   have e0:∀e,¬e<r.n->Nat.blt e r.n=false:=fun e he=>by
    cases hb:Nat.blt e r.n
    ·rfl
    ·rw[Nat.blt_eq]at hb;exact absurd hb he
   show Row.mk r.n _ _ _ _=Row.mk r'.n _ _ _ _;rw[<-hn]
   congr 1
   ·funext e j;cases hk:ks[j]? with
    |none=>rfl
    |some k=>cases k with
     |int k=>
      show(bif Nat.blt e r.n then r.I e j else 0)=(bif Nat.blt e r.n then r'.I e j else 0);by_cases he:e<r.n
      ·cases hh e j _ he hk with|int h=>rw[h]
      ·rw[e0 e he];rfl
     |_=>rfl
   ·funext e j;cases hk:ks[j]? with
    |none=>rfl
    |some k=>cases k with
     |bool=>
      show(bif Nat.blt e r.n then r.B e j else false)=(bif Nat.blt e r.n then r'.B e j else false);by_cases he:e<r.n
      ·cases hh e j _ he hk with|bool h=>rw[h]
      ·rw[e0 e he];rfl
     |_=>rfl
   ·funext e j;cases hk:ks[j]? with
    |none=>rfl
    |some k=>cases k with
     |str=>
      show(bif Nat.blt e r.n then r.S e j else .empty)=(bif Nat.blt e r.n then r'.S e j else .empty);by_cases he:e<r.n
      ·cases hh e j _ he hk with|str h=>rw[h]
      ·rw[e0 e he];rfl
     |_=>rfl
   ·funext e j;cases hk:ks[j]? with
    |none=>rfl
    |some k=>cases k with
     |slice sub=>
      show(bif Nat.blt e r.n then I7 d sub (r.R e j)else .nil)=(bif Nat.blt e r.n then I7 d sub (r'.R e j)else .nil);by_cases he:e<r.n
      ·cases hh e j _ he hk with
       |slice h=>rw[ED d sub _ _ (List.all_eq_true.1 hd _ (List.mem_of_getElem? hk)) h]
      ·rw[e0 e he];rfl
     |_=>rfl
def O8:D->D
 |.slice ks r=>.slice ks (I7 5 ks r)
 |d=>d
def mW:D->D
 |.agg ds=>.agg (ds.map O8)
 |d=>O8 d
def MemAl(m m':M_):Prop:=m.length=m'.length∧∀id,id<m.length->∃ks r r',m[id]? =some (some (.row ks false r))∧m'[id]? =some (some (.row ks false r'))∧RdA ks r r'
def MemAl.nil:MemAl [] []:=⟨rfl,fun id h=>absurd h (Nat.not_lt_zero _)⟩
def MemAl.snoc{m m':M_}(h:MemAl m m'){ks:List CK}{r r':Row}(ha:RdA ks r r'):MemAl (m++[some (.row ks false r)]) (m'++[some (.row ks false r')]):=by
 refine⟨by simp[h.1],fun id hid=>?_⟩;by_cases hlt:id<m.length
 ·obtain⟨Js,r1,r1',a1,a2,a3⟩:=h.2 id hlt;exact⟨Js,r1,r1',by rw[AQ hlt];exact a1,by rw[AQ (by rw[<-h.1];exact hlt)];exact a2,a3⟩
 ·have:id=m.length:=by simp at hid;omega
  subst this;exact⟨ks,r,r',y_,by rw[h.1];simp,ha⟩
def GX{m m' m1:M_}{d:D}{v:Value}(h:Bj false m d=some (v,m1))(ha:MemAl m m'):∃m1',Bj false m' (O8 d)=some (v,m1')∧MemAl m1 m1':=by
 cases d with
 |v x=>
  simp only[Bj]at h;split at h
  ·rename_i hx;cases h;exact⟨m',by simp[O8,Bj,hx],ha⟩
  ·cases h
 |slice ks r=>
  simp only[Bj]at h;cases h;refine⟨_,by simp only[O8,Bj];rw[<-ha.1,(BQ 5 ks r).hn.symm],ha.snoc (BQ 5 ks r)⟩
 |agg ds=>simp[Bj]at h
 |ptr ks r=>
  simp only[Bj]at h;cases h;exact⟨_,by simp only[O8,Bj];rw[<-ha.1],ha.snoc (RdA.refl r ks)⟩
 |err b=>
  simp only[Bj]at h;cases h;exact⟨m',rfl,ha⟩
def OX:∀{ds:List D}{m m' m1:M_}{vs:List Value},BJ false ds m=some (vs,m1)->MemAl m m'->∃m1',BJ false (ds.map O8) m'=some (vs,m1')∧MemAl m1 m1'
 |[],m,m',m1,vs,h,ha=>by cases h;exact⟨m',rfl,ha⟩
 |d::ds,m,m',m1,vs,h,ha=>by
  simp only[BJ]at h;split at h
  ·rename_i x m2 h1;split at h
   ·rename_i xs m3 h2;cases h;obtain⟨n2,k1,k2⟩:=GX h1 ha;obtain⟨n3,k3,k4⟩:=OX h2 k2;exact⟨n3,by simp[BJ,k1,k3],k4⟩
   ·cases h
  ·cases h
def kT{m m' m1:M_}{d:D}{v:Value}(h:fromD false m d=some (v,m1))(ha:MemAl m m'):∃m1',fromD false m' (mW d)=some (v,m1')∧MemAl m1 m1':=by
 cases d with
 |agg ds=>
  simp only[fromD]at h;split at h
  ·rename_i xs m2 h1;cases h;obtain⟨n2,k1,k2⟩:=OX h1 ha;exact⟨n2,by simp[mW,fromD,k1],k2⟩
  ·cases h
 |v x=>exact GX (d:=.v x) (m:=m) (m1:=m1) (v:=v) h ha
 |slice ks r=>exact GX (d:=.slice ks r) (m:=m) (m1:=m1) (v:=v) h ha
 |ptr ks r=>exact GX (d:=.ptr ks r) (m:=m) (m1:=m1) (v:=v) h ha
 |err b=>exact GX (d:=.err b) (m:=m) (m1:=m1) (v:=v) h ha
def QM:∀{ds:List D}{m m' m1:M_}{vs:List Value},AU false ds m=some (vs,m1)->MemAl m m'->∃m1',AU false (ds.map mW) m'=some (vs,m1')∧MemAl m1 m1'
 |[],m,m',m1,vs,h,ha=>by cases h;exact⟨m',rfl,ha⟩
 |d::ds,m,m',m1,vs,h,ha=>by
  simp only[AU]at h;split at h
  ·rename_i x m2 h1;split at h
   ·rename_i xs m3 h2;cases h;obtain⟨n2,k1,k2⟩:=kT h1 ha;obtain⟨n3,k3,k4⟩:=QM h2 k2;exact⟨n3,by simp[AU,k1,k3],k4⟩
   ·cases h
  ·cases h
def MemAl.memR{m m':M_}{ρ:Map}{B:Nat}{w:World}(ha:MemAl m m')(h:MemR m ρ B w):MemR m' ρ B w:=by
 have hn:NonOwn m':=fun id b hb=>by
  obtain⟨ks,r,r',a1,a2,a3⟩:=ha.2 id (by rw[ha.1];exact(A0.1 hb).1);rw[a2]at hb;cases hb;rfl
 refine⟨fun id b hb=>?_,fun id hid=>h.dead id fun b hb=>?_,fun i j b ⟨L,blk,h1,h2,h3,h4⟩ _=>?_⟩
 ·obtain⟨ks,r,r',a1,a2,a3⟩:=ha.2 id (by rw[ha.1];exact(A0.1 hb).1);rw[a2]at hb;cases hb;obtain⟨L,hL,q1,q2,q3,q4,q5⟩:=h.blk id _ a1;refine⟨L,hL,q1.trans a3.hn,q2,fun hf=>(by cases hf),fun h0=>?_,q5⟩;obtain⟨p1,p2⟩:=q4 (by rw[a3.hn];exact h0);have p3:Rds (okB m' ρ w) w ks r L.b L.off:=p2.mono (fun b hb=>⟨hn.ok hb.1,rfl⟩) rfl;exact⟨fun _=>hn.ok (p1 rfl).1,p3.alike a3⟩
 ·obtain⟨ks,r,r',a1,a2,a3⟩:=ha.2 id (A0.1 hb).1;exact hid _ a2
 ·rw[hn i blk h2]at h3;cases h3
def DenW.canon{P:Program}{W:World->Prop}{f:FuncId}{F:FD}(h:DenW P W f F):DenW P W f (fun ds=>F (ds.map mW)):=fun wb hw ds rs hF w hb args vs mem ρ hfr hm hl hv=>by
 obtain⟨m1',k1,k2⟩:=QM hfr MemAl.nil;exact h wb hw (ds.map mW) rs hF w hb args vs m1' ρ k1 (k2.memR hm) hl (fun i x c hx hc=>by rw[<-k2.1];exact hv i x c hx hc)
end Go.Ev
namespace Go
universe u
def k_{p:Prop}(h:p:=by kernel_rfl):p:=h
def Bv{α:Type u}{a b:α}(h:a=b:=by kernel_rfl):some a=some b:=congrArg some h
end Go
namespace Go.Ev
abbrev S_(b o n:Nat):Value:=.slice (some ⟨b,o,some 0⟩) n 0
abbrev Ar:List CK:=[.int .i64]
abbrev JD:List CK:=[.int .i64,.int .i64]
abbrev Ht:List CK:=[.int .i64,.int .i64,.int .i64]
abbrev Qw:List CK:=[.int .i64,.int .i64,.int .i64,.int .i64]
abbrev Cc:List CK:=[.slice Ar]
abbrev Es:List CK:=[.slice JD]
abbrev Fh:List CK:=[.slice Qw]
abbrev DV:List CK:=[.int .i64,.slice Ar,.slice Ar]
abbrev Au(k:List CK)(r:Row):Option Blk:=some (.row k false r)
abbrev Ij(k:List CK)(r:Row):Option Blk:=some (.row k true r)
abbrev N7(k:List CK)(r:Row):Option Blk:=some (.deep k r none)
def Bl{A:Type}{c:A->Bool}{P:A->Prop}{i:∀x,Decidable (P x)}(h:c=fun x=>@decide (P x) (i x)){x:A}:c x=true↔P x:=by rw[h];exact decide_eq_true_iff
structure ScanL(ι:Type) where
 f:FuncId
 id:Nat
 lv:List Tmp
 lx:List Tmp
 p:Dl
 dat:List It->Option ι
 S:ι->Nat->List It
 len:ι->Nat
 cnd:ι->Bool
 bad:ι->Nat->Bool
 Kb:ι->Nat->(X->St->OD)->OD
 Ke:ι->(X->St->OD)->OD
def FZ(p:Nat->Bool):Nat->Nat->Nat
 |0,j=>j
 |m+1,j=>bif p j then j else FZ p m (j+1)
def Ov(p:Nat->Bool):∀m j,Ag p m j=true->FZ p m j<j+m∧p (FZ p m j)=true∧∀i,j<=i->i<FZ p m j->p i=false
 |0,j,h=>by cases h
 |m+1,j,h=>by
  unfold FZ;cases hp:p j
  ·simp only[Ag,hp,Bool.false_or]at h;obtain⟨h1,h2,h3⟩:=Ov p m (j+1) h;refine⟨by simp only[cond_false];omega,h2,fun i hi hlt=>?_⟩;by_cases e:i=j
   ·rw[e];exact hp
   ·exact h3 i o_ hlt
  ·exact⟨by simp only[cond_true];omega,hp,fun i hi hlt=>by simp only[cond_true]at hlt;omega⟩
def ScanL.G{ι:Type}(s:ScanL ι)(its:List It)(k:X->St->OD):OD:=match s.dat its with
 |some x=>br (s.cnd x) (br (Ag (s.bad x) (s.len x) 0) (s.Kb x (FZ (s.bad x) (s.len x) 0) k) (s.Ke x k)) none
 |none=>none
def ScanL.C{ι:Type}(s:ScanL ι):LoopC:=⟨s.f,s.id,s.lv,s.lx,s.p,s.G⟩
noncomputable abbrev Ak(C:Cx)(f:FuncId)(id q:Nat):St->(X->St->OD)->OD:=AA C f true (inl C (q+4)) (Cm C.P f id)
def XR{f:St->(X->St->OD)->OD}{lv:List Tmp}{lx:Option (List Tmp)}{S:Nat->St}{len:Nat}{bad:Nat->Bool}{Kb:Nat->(X->St->OD)->OD}{Ke:(X->St->OD)->OD}
  (hr:∀j,j<len->∀R K,f (S j) (BF lv lx R K)=br (bad j) (Kb j K) (R (S (j+1)))) (he:∀R K,f (S len) (BF lv lx R K)=Ke K) (K:X->St->OD):
  ∀(m j:Nat),j+m=len->∀N,m<N->rounds lv lx f N (S j) K=br (Ag bad m j) (Kb (FZ bad m j) K) (Ke K)
 |0,j,hj,N,hN=>by
  obtain⟨N,rfl⟩:∃N',N=N'+1:=⟨N-1,o_⟩;have:j=len:=o_;subst this;simp only[rounds,Ag];exact he _ K
 |m+1,j,hj,N,hN=>by
  obtain⟨N,rfl⟩:∃N',N=N'+1:=⟨N-1,o_⟩;simp only[rounds,Ag,FZ];rw[hr j o_,XR hr he K m (j+1) o_ N o_];cases bad j<;>rfl
def ScanL.ok{ι:Type}{C:Cx}(s:ScanL ι)(h1:Nat.beq ((EN C.P s.f).filter fun b=>Nat.beq (Ap b) s.id).length 1=true)
  (hS:∀its x,s.dat its=some x->s.cnd x=true->bst s.p its=bst s.p (s.S x 0))
  (hlen:∀x,s.cnd x=true->s.len x<C.N)
  (hr:∀q x j,s.cnd x=true->j<s.len x->∀R K,Ak C s.f s.id q (bst s.p (s.S x j)) (BF s.lv (some s.lx) R K)=br (s.bad x j) (s.Kb x j K) (R (bst s.p (s.S x (j+1)))))
  (he:∀q x,s.cnd x=true->∀R K,Ak C s.f s.id q (bst s.p (s.S x (s.len x))) (BF s.lv (some s.lx) R K)=s.Ke x K):Ah C s.C:=⟨h1,fun q its k rr h=>by
 change s.G its k=some rr at h;unfold ScanL.G at h;split at h
 ·rename_i x hx;rcases CY h with⟨hc,h2⟩|⟨_,h2⟩
  ·rw[<-h2];show rounds s.lv (some s.lx) (Ak C s.f s.id q) C.N (bst s.p its) k=_;rw[hS its x hx hc];exact XR (S:=fun j=>bst s.p (s.S x j)) (hr q x · hc) (he q x hc) k (s.len x) 0 o_ C.N (hlen x hc)
  ·cases h2
 ·cases h⟩
structure RunL(ι β:Type) where
 f:FuncId
 id:Nat
 lv:List Tmp
 lx:List Tmp
 p:Dl
 dat:List It->Option ι
 S:ι->Nat->β->List It
 len:ι->Nat
 cnd:ι->Bool
 ini:ι->β
 stop:ι->Nat->β->Bool
 nx:ι->Nat->β->β
 Kb:ι->Nat->β->(X->St->OD)->OD
 Ke:ι->β->(X->St->OD)->OD
def Bf{β:Type}(stop:Nat->β->Bool)(nx:Nat->β->β):Nat->Nat->β->Bool×Nat×β
 |0,j,a=>(false,j,a)
 |m+1,j,a=>bif stop j a then(true,j,a)else Bf stop nx m (j+1) (nx j a)
def Fq{β:Type}{stop:Nat->β->Bool}{nx:Nat->β->β}{m j:Nat}{a:β}(h:stop j a=false):Bf stop nx (m+1) j a=Bf stop nx m (j+1) (nx j a):=by
 show(bif stop j a then _ else _)=_;rw[h];rfl
def H8{β:Type}{stop:Nat->β->Bool}{nx:Nat->β->β}{m j:Nat}{a:β}(h:stop j a=true):Bf stop nx (m+1) j a=(true,j,a):=by
 show(bif stop j a then _ else _)=_;rw[h];rfl
def UL{β:Type}{stop:Nat->β->Bool}{nx:Nat->β->β}{Inv:Nat->β->Prop}{len:Nat}(hI:∀j a,j<len->Inv j a->stop j a=false->Inv (j+1) (nx j a)):∀{m j:Nat}{a:β},j+m=len->Inv j a->
  Inv (Bf stop nx m j a).2.1 (Bf stop nx m j a).2.2∧((Bf stop nx m j a).1=true->(Bf stop nx m j a).2.1<len∧stop (Bf stop nx m j a).2.1 (Bf stop nx m j a).2.2=true)∧((Bf stop nx m j a).1=false->(Bf stop nx m j a).2.1=len)
 |0,j,a,hj,h=>⟨h,fun h=>(by cases h),fun _=>hj⟩
 |m+1,j,a,hj,h=>by
  cases hs:stop j a
  ·rw[Fq hs];exact UL hI o_ (hI j a o_ h hs)
  ·rw[H8 hs];exact⟨h,fun _=>⟨(by dsimp only;omega),hs⟩,fun h=>(by cases h)⟩
def PM{β:Type}{stop stop':Nat->β->Bool}{nx nx':Nat->β->β}{Inv:Nat->β->Prop}{len:Nat}(hI:∀j a,j<len->Inv j a->stop j a=false->Inv (j+1) (nx j a))(hs:∀j a,j<len->Inv j a->stop' j a=stop j a)(hn:∀j a,j<len->Inv j a->nx' j a=nx j a):∀{m j:Nat}{a:β},j+m=len->Inv j a->
  Bf stop' nx' m j a=Bf stop nx m j a
 |0,j,a,hj,h=>rfl
 |m+1,j,a,hj,h=>by
  cases hc:stop j a
  ·rw[Fq hc,Fq ((hs j a o_ h).trans hc),hn j a o_ h];exact PM hI hs hn o_ (hI j a o_ h hc)
  ·rw[H8 hc,H8 ((hs j a o_ h).trans hc)]
def RunL.G{ι β:Type}(s:RunL ι β)(its:List It)(k:X->St->OD):OD:=match s.dat its with
 |some x=>br (s.cnd x) (br (Bf (s.stop x) (s.nx x) (s.len x) 0 (s.ini x)).1 (s.Kb x (Bf (s.stop x) (s.nx x) (s.len x) 0 (s.ini x)).2.1 (Bf (s.stop x) (s.nx x) (s.len x) 0 (s.ini x)).2.2 k) (s.Ke x (Bf (s.stop x) (s.nx x) (s.len x) 0 (s.ini x)).2.2 k)) none
 |none=>none
def RunL.C{ι β:Type}(s:RunL ι β):LoopC:=⟨s.f,s.id,s.lv,s.lx,s.p,s.G⟩
def run_go{β:Type}{f:St->(X->St->OD)->OD}{lv:List Tmp}{lx:Option (List Tmp)}{S:Nat->β->St}{len:Nat}{stop:Nat->β->Bool}{nx:Nat->β->β}{Kb:Nat->β->(X->St->OD)->OD}{Ke:β->(X->St->OD)->OD}{Inv:Nat->β->Prop}
  (hI:∀j a,j<len->Inv j a->stop j a=false->Inv (j+1) (nx j a))
  (hr:∀j a,j<len->Inv j a->∀R K,f (S j a) (BF lv lx R K)=br (stop j a) (Kb j a K) (R (S (j+1) (nx j a)))) (he:∀a,Inv len a->∀R K,f (S len a) (BF lv lx R K)=Ke a K) (K:X->St->OD):
  ∀(m j:Nat)(a:β),j+m=len->Inv j a->∀N,m<N->rounds lv lx f N (S j a) K=br (Bf stop nx m j a).1 (Kb (Bf stop nx m j a).2.1 (Bf stop nx m j a).2.2 K) (Ke (Bf stop nx m j a).2.2 K)
 |0,j,a,hj,h,N,hN=>by
  obtain⟨N,rfl⟩:∃N',N=N'+1:=⟨N-1,o_⟩;have:j=len:=o_;subst this;simp only[rounds,Bf];exact he a h _ K
 |m+1,j,a,hj,h,N,hN=>by
  obtain⟨N,rfl⟩:∃N',N=N'+1:=⟨N-1,o_⟩;rw[DF,hr j a o_ h];cases hs:stop j a
  ·rw[Fq hs,Ac];exact run_go hI hr he K m (j+1) (nx j a) o_ (hI j a o_ h hs) N o_
  ·rw[H8 hs];rfl
def RunL.ok{ι β:Type}{C:Cx}(s:RunL ι β)(Inv:ι->Nat->β->Prop)(h1:Nat.beq ((EN C.P s.f).filter fun b=>Nat.beq (Ap b) s.id).length 1=true)
  (hS:∀its x,s.dat its=some x->s.cnd x=true->bst s.p its=bst s.p (s.S x 0 (s.ini x)))
  (hlen:∀x,s.cnd x=true->s.len x<C.N) (hI0:∀x,s.cnd x=true->Inv x 0 (s.ini x))
  (hI:∀x j a,s.cnd x=true->j<s.len x->Inv x j a->s.stop x j a=false->Inv x (j+1) (s.nx x j a))
  (hr:∀q x j a,s.cnd x=true->j<s.len x->Inv x j a->∀R K,Ak C s.f s.id q (bst s.p (s.S x j a)) (BF s.lv (some s.lx) R K)=br (s.stop x j a) (s.Kb x j a K) (R (bst s.p (s.S x (j+1) (s.nx x j a)))))
  (he:∀q x a,s.cnd x=true->Inv x (s.len x) a->∀R K,Ak C s.f s.id q (bst s.p (s.S x (s.len x) a)) (BF s.lv (some s.lx) R K)=s.Ke x a K):Ah C s.C:=⟨h1,fun q its k rr h=>by
 change s.G its k=some rr at h;unfold RunL.G at h;split at h
 ·rename_i x hx;rcases CY h with⟨hc,h2⟩|⟨_,h2⟩
  ·rw[<-h2];show rounds s.lv (some s.lx) (Ak C s.f s.id q) C.N (bst s.p its) k=_;rw[hS its x hx hc];exact run_go (S:=fun j a=>bst s.p (s.S x j a)) (Inv:=Inv x) (hI x · · hc) (fun j a hj hi R K=>hr q x j a hc hj hi R K) (fun a hi R K=>he q x a hc hi R K) k (s.len x) 0 (s.ini x) o_ (hI0 x hc) C.N (hlen x hc)
  ·cases h2
 ·cases h⟩
def gd(j n:Nat)(h:j<n):(decide (0<=(j:Int))&&decide ((j:Int)<(n:Int)))=true:=by simp only[A2,A3];omega
def DX(j n:Nat)(h:j<n):decide ((j:Int)<(n:Int))=true:=A4 o_
def EU(n:Nat):decide ((n:Int)<(n:Int))=false:=AB o_
def Eg{j:Nat}(h:j<1000001):IntKind.i64.wrap ((j:Int)+1)=((j+1:Nat):Int):=by
 rw[wrap64 o_ o_];omega
structure FoldL(ι β:Type) where
 f:FuncId
 id:Nat
 lv:List Tmp
 lx:List Tmp
 p:Dl
 dat:List It->Option ι
 S:ι->Nat->β->List It
 len:ι->Nat
 cnd:ι->Bool
 ini:ι->β
 nx:ι->Nat->β->β
 Ke:ι->β->(X->St->OD)->OD
def BK{β:Type}(nx:Nat->β->β):Nat->Nat->β->β
 |0,_,a=>a
 |m+1,j,a=>BK nx m (j+1) (nx j a)
def FoldL.G{ι β:Type}(s:FoldL ι β)(its:List It)(k:X->St->OD):OD:=match s.dat its with
 |some x=>br (s.cnd x) (s.Ke x (BK (s.nx x) (s.len x) 0 (s.ini x)) k) none
 |none=>none
def FoldL.C{ι β:Type}(s:FoldL ι β):LoopC:=⟨s.f,s.id,s.lv,s.lx,s.p,s.G⟩
def Uw{β:Type}{nx:Nat->β->β}{Inv:Nat->β->Prop}{len:Nat}(hI:∀j a,j<len->Inv j a->Inv (j+1) (nx j a)):∀{m j:Nat}{a:β},j+m=len->Inv j a->Inv len (BK nx m j a)
 |0,j,a,hj,h=>(show j=len by omega)▸h
 |m+1,j,a,hj,h=>Uw hI (m:=m) o_ (hI j a o_ h)
def Zb{β:Type}{f:St->(X->St->OD)->OD}{lv:List Tmp}{lx:Option (List Tmp)}{S:Nat->β->St}{len:Nat}{nx:Nat->β->β}{Ke:β->(X->St->OD)->OD}{Inv:Nat->β->Prop}
  (hI:∀j a,j<len->Inv j a->Inv (j+1) (nx j a))
  (hr:∀j a,j<len->Inv j a->∀R K,f (S j a) (BF lv lx R K)=R (S (j+1) (nx j a))) (he:∀a,Inv len a->∀R K,f (S len a) (BF lv lx R K)=Ke a K) (K:X->St->OD):
  ∀(m j:Nat)(a:β),j+m=len->Inv j a->∀N,m<N->rounds lv lx f N (S j a) K=Ke (BK nx m j a) K
 |0,j,a,hj,h,N,hN=>by
  obtain⟨N,rfl⟩:∃N',N=N'+1:=⟨N-1,o_⟩;have:j=len:=o_;subst this;simp only[rounds,BK];exact he a h _ K
 |m+1,j,a,hj,h,N,hN=>by
  obtain⟨N,rfl⟩:∃N',N=N'+1:=⟨N-1,o_⟩;rw[DF,hr j a o_ h];exact Zb hI hr he K m (j+1) (nx j a) o_ (hI j a o_ h) N o_
def FoldL.ok{ι β:Type}{C:Cx}(s:FoldL ι β)(Inv:ι->Nat->β->Prop)(h1:Nat.beq ((EN C.P s.f).filter fun b=>Nat.beq (Ap b) s.id).length 1=true)
  (hS:∀its x,s.dat its=some x->s.cnd x=true->bst s.p its=bst s.p (s.S x 0 (s.ini x)))
  (hlen:∀x,s.cnd x=true->s.len x<C.N) (hI0:∀x,s.cnd x=true->Inv x 0 (s.ini x))
  (hI:∀x j a,s.cnd x=true->j<s.len x->Inv x j a->Inv x (j+1) (s.nx x j a))
  (hr:∀q x j a,s.cnd x=true->j<s.len x->Inv x j a->∀R K,Ak C s.f s.id q (bst s.p (s.S x j a)) (BF s.lv (some s.lx) R K)=R (bst s.p (s.S x (j+1) (s.nx x j a))))
  (he:∀q x a,s.cnd x=true->Inv x (s.len x) a->∀R K,Ak C s.f s.id q (bst s.p (s.S x (s.len x) a)) (BF s.lv (some s.lx) R K)=s.Ke x a K):Ah C s.C:=⟨h1,fun q its k rr h=>by
 change s.G its k=some rr at h;unfold FoldL.G at h;split at h
 ·rename_i x hx;rcases CY h with⟨hc,h2⟩|⟨_,h2⟩
  ·rw[<-h2];show rounds s.lv (some s.lx) (Ak C s.f s.id q) C.N (bst s.p its) k=_;rw[hS its x hx hc];exact Zb (S:=fun j a=>bst s.p (s.S x j a)) (Inv:=Inv x) (hI x · · hc) (fun j a hj hi R K=>hr q x j a hc hj hi R K) (fun a hi R K=>he q x a hc hi R K) k (s.len x) 0 (s.ini x) o_ (hI0 x hc) C.N (hlen x hc)
  ·cases h2
 ·cases h⟩
end Go.Ev
namespace Go.Proofs.YtnljjjghpgdmoaaGreatDoor
open Go.Ev
def fns:List Nat:=[3,4,5,6,7,8,9,10,11,12,13,14,15,16,17,18,20,21,22,25,26,27,28,29,30,31,32,33,34,35,36,37,38,39,40,41,42,43,44,45,46,47,48,49,50,51,52,53,54,55,56,57,58,59,60,61,62,64,65,66,67,68,70,71,72,73,74,75,76,77,78,79,80,81,82,83,84,85,86,87,88,89,90,91,92,93,94,95,96,97,98,99,100,101,102,103,104,105,106,107,108,110,112,115,116,117,118,119,120,121,122,123,124,125,126,127,128,129,130,131,132,133,134,135,136,137,138,139,140,141,142,143,145,153,156,157,158,159,160,161,162,163,164,168,169,170,171,172,182,188,189,190,213,222]
def enter:∀(g:FuncId),fns.contains g=true->∀(args:Array Value)(w:World),(callFunc g args).run Tryz.prog w=.ok (.enter g args) w:=by
 intro g hg;simp only[fns,List.contains_cons,List.contains_nil,Bool.or_false,Bool.or_eq_true,beq_iff_eq]at hg;rcases hg with rfl|rfl|rfl|rfl|rfl|rfl|rfl|rfl|rfl|rfl|rfl|rfl|rfl|rfl|rfl|rfl|rfl|rfl|rfl|rfl|rfl|rfl|rfl|rfl|rfl|rfl|rfl|rfl|rfl|rfl|rfl|rfl|rfl|rfl|rfl|rfl|rfl|rfl|rfl|rfl|rfl|rfl|rfl|rfl|rfl|rfl|rfl|rfl|rfl|rfl|rfl|rfl|rfl|rfl|rfl|rfl|rfl|rfl|rfl|rfl|rfl|rfl|rfl|rfl|rfl|rfl|rfl|rfl|rfl|rfl|rfl|rfl|rfl|rfl|rfl|rfl|rfl|rfl|rfl|rfl|rfl|rfl|rfl|rfl|rfl|rfl|rfl|rfl|rfl|rfl|rfl|rfl|rfl|rfl|rfl|rfl|rfl|rfl|rfl|rfl|rfl|rfl|rfl|rfl|rfl|rfl|rfl|rfl|rfl|rfl|rfl|rfl|rfl|rfl|rfl|rfl|rfl|rfl|rfl|rfl|rfl|rfl|rfl|rfl|rfl|rfl|rfl|rfl|rfl|rfl|rfl|rfl|rfl|rfl|rfl|rfl|rfl|rfl|rfl|rfl|rfl|rfl|rfl|rfl|rfl|rfl|rfl|rfl|rfl|rfl|rfl|rfl|rfl|rfl
 ·exact Tryz.call3
 ·exact Tryz.call4
 ·exact Tryz.call5
 ·exact Tryz.call6
 ·exact Tryz.call7
 ·exact Tryz.call8
 ·exact Tryz.call9
 ·exact Tryz.call10
 ·exact Tryz.call11
 ·exact Tryz.call12
 ·exact Tryz.call13
 ·exact Tryz.call14
 ·exact Tryz.call15
 ·exact Tryz.call16
 ·exact Tryz.call17
 ·exact Tryz.call18
 ·exact Tryz.call20
 ·exact Tryz.call21
 ·exact Tryz.call22
 ·exact Tryz.call25
 ·exact Tryz.call26
 ·exact Tryz.call27
 ·exact Tryz.call28
 ·exact Tryz.call29
 ·exact Tryz.call30
 ·exact Tryz.call31
 ·exact Tryz.call32
 ·exact Tryz.call33
 ·exact Tryz.call34
 ·exact Tryz.call35
 ·exact Tryz.call36
 ·exact Tryz.call37
 ·exact Tryz.call38
 ·exact Tryz.call39
 ·exact Tryz.call40
 ·exact Tryz.call41
 ·exact Tryz.call42
 ·exact Tryz.call43
 ·exact Tryz.call44
 ·exact Tryz.call45
 ·exact Tryz.call46
 ·exact Tryz.call47
 ·exact Tryz.call48
 ·exact Tryz.call49
 ·exact Tryz.call50
 ·exact Tryz.call51
 ·exact Tryz.call52
 ·exact Tryz.call53
 ·exact Tryz.call54
 ·exact Tryz.call55
 ·exact Tryz.call56
 ·exact Tryz.call57
 ·exact Tryz.call58
 ·exact Tryz.call59
 ·exact Tryz.call60
 ·exact Tryz.call61
 ·exact Tryz.call62
 ·exact Tryz.call64
 ·exact Tryz.call65
 ·exact Tryz.call66
 ·exact Tryz.call67
 ·exact Tryz.call68
 ·exact Tryz.call70
 ·exact Tryz.call71
 ·exact Tryz.call72
 ·exact Tryz.call73
 ·exact Tryz.call74
 ·exact Tryz.call75
 ·exact Tryz.call76
 ·exact Tryz.call77
 ·exact Tryz.call78
 ·exact Tryz.call79
 ·exact Tryz.call80
 ·exact Tryz.call81
 ·exact Tryz.call82
 ·exact Tryz.call83
 ·exact Tryz.call84
 ·exact Tryz.call85
 ·exact Tryz.call86
 ·exact Tryz.call87
 ·exact Tryz.call88
 ·exact Tryz.call89
 ·exact Tryz.call90
 ·exact Tryz.call91
 ·exact Tryz.call92
 ·exact Tryz.call93
 ·exact Tryz.call94
 ·exact Tryz.call95
 ·exact Tryz.call96
 ·exact Tryz.call97
 ·exact Tryz.call98
 ·exact Tryz.call99
 ·exact Tryz.call100
 ·exact Tryz.call101
 ·exact Tryz.call102
 ·exact Tryz.call103
 ·exact Tryz.call104
 ·exact Tryz.call105
 ·exact Tryz.call106
 ·exact Tryz.call107
 ·exact Tryz.call108
 ·exact Tryz.call110
 ·exact Tryz.call112
 ·exact Tryz.call115
 ·exact Tryz.call116
 ·exact Tryz.call117
 ·exact Tryz.call118
 ·exact Tryz.call119
 ·exact Tryz.call120
 ·exact Tryz.call121
 ·exact Tryz.call122
 ·exact Tryz.call123
 ·exact Tryz.call124
 ·exact Tryz.call125
 ·exact Tryz.call126
 ·exact Tryz.call127
 ·exact Tryz.call128
 ·exact Tryz.call129
 ·exact Tryz.call130
 ·exact Tryz.call131
 ·exact Tryz.call132
 ·exact Tryz.call133
 ·exact Tryz.call134
 ·exact Tryz.call135
 ·exact Tryz.call136
 ·exact Tryz.call137
 ·exact Tryz.call138
 ·exact Tryz.call139
 ·exact Tryz.call140
 ·exact Tryz.call141
 ·exact Tryz.call142
 ·exact Tryz.call143
 ·exact Tryz.call145
 ·exact Tryz.call153
 ·exact Tryz.call156
 ·exact Tryz.call157
 ·exact Tryz.call158
 ·exact Tryz.call159
 ·exact Tryz.call160
 ·exact Tryz.call161
 ·exact Tryz.call162
 ·exact Tryz.call163
 ·exact Tryz.call164
 ·exact Tryz.call168
 ·exact Tryz.call169
 ·exact Tryz.call170
 ·exact Tryz.call171
 ·exact Tryz.call172
 ·exact Tryz.call182
 ·exact Tryz.call188
 ·exact Tryz.call189
 ·exact Tryz.call190
 ·exact Tryz.call213
 ·exact Tryz.call222
def mixed:Tryz.prog.follows .mixedOrders=true:=k_
def Hf:List CK:=[.int .i64]
def Oc:List CK:=[.slice [.int .i64]]
set_option maxRecDepth 100000
def N9(v:Int):Bool:=decide (v<0)||decide (v>1000)
def Fz{α:Type}(b c:Bool)(x y:Option α):br (b||c) x y=br b x (br c x y):=by cases b<;>rfl
def JL(lo hi v:Int):Bool:=decide (v<lo)||decide (v>=hi)
def jR:Dl:={τ:=[.v (.sl 0),.v (.c (.func (.func 82) #[] #[]))]++pu 5++[.v (.int .i64),.v (.int .i64)]++pu 10,saved:=[[.v (.sl 0),.v (.c (.func (.func 82) #[] #[]))]++pu 2++[.v (.c (.bool false)),.v (.sl 0),.v (.c (.func (.func 82) #[] #[]))]++pu 2,[]],mem:=[.row Ar false]}
structure A_l22 where
 n:Nat
 len:Int
 j:Int
 n_2:Nat
 n_3:Nat
 r:Row
def sW(its:List It):Option A_l22:=match its with|[.n n,.i len,.i j,.n n_2,.n n_3,.r r]=>some ⟨n,len,j,n_2,n_3,r⟩|_=>none
def rH(x:A_l22):Bool:=x.j=0∧x.len=x.n∧x.n_2=x.n∧x.n_3=x.n∧x.n<=1000000
def c_l22_iff{x:A_l22}:=@Bl _ rH _ _ rfl x
def l22:ScanL A_l22:=⟨126,2,[0,1,7,8],[4],jR,sW,fun x j=>[.n x.n,.i (x.n:Int),.i (j:Int),.n x.n,.n x.n,.r x.r],fun x=>x.n,rH,fun x j=>N9 (x.r.I j 0),fun x j K=>K .ret ⟨us 4++[i64 ((j:Int))]++us 14,[[S_ 0 0 x.n,.func (.func 82) #[] #[]]++us 2++[.bool false,S_ 0 0 x.n,.func (.func 82) #[] #[]]++us 2,[]],[Au Ar x.r]⟩,fun x K=>K (.exit 0) ⟨us 19,[[S_ 0 0 x.n,.func (.func 82) #[] #[]]++us 2++[.bool false,S_ 0 0 x.n,.func (.func 82) #[] #[]]++us 2,[]],[Au Ar x.r]⟩⟩
def dX:Dl:={τ:=[.v (.sl 0),.v (.c (.func (.func 81) #[] #[]))]++pu 5++[.v (.int .i64),.v (.int .i64)]++pu 10,saved:=[[.v (.sl 0),.v (.c (.func (.func 81) #[] #[]))]++pu 2++[.v (.c (.bool false)),.v (.sl 0),.v (.c (.func (.func 81) #[] #[]))]++pu 2,[]],mem:=[.row Cc false]}
structure A_l21 where
 n:Nat
 len:Int
 j:Int
 n_2:Nat
 n_3:Nat
 r:Row
def dW(its:List It):Option A_l21:=match its with|[.n n,.i len,.i j,.n n_2,.n n_3,.r r]=>some ⟨n,len,j,n_2,n_3,r⟩|_=>none
def jL(x:A_l21):Bool:=x.j=0∧x.len=x.n∧x.n_2=x.n∧x.n_3=x.n∧x.n<=1000000
def c_l21_iff{x:A_l21}:=@Bl _ jL _ _ rfl x
def l21:ScanL A_l21:=⟨125,2,[0,1,7,8],[4],dX,dW,fun x j=>[.n x.n,.i (x.n:Int),.i (j:Int),.n x.n,.n x.n,.r x.r],fun x=>x.n,jL,fun x j=>decide (((x.r.R j 0).n:Int)>10),fun x j K=>K .ret ⟨us 4++[i64 ((j:Int))]++us 14,[[S_ 0 0 x.n,.func (.func 81) #[] #[]]++us 2++[.bool false,S_ 0 0 x.n,.func (.func 81) #[] #[]]++us 2,[]],[Au Cc x.r]⟩,fun x K=>K (.exit 0) ⟨us 19,[[S_ 0 0 x.n,.func (.func 81) #[] #[]]++us 2++[.bool false,S_ 0 0 x.n,.func (.func 81) #[] #[]]++us 2,[]],[Au Cc x.r]⟩⟩
def gZ:Dl:={τ:=[.v (.sl 0),.v (.c (.func (.func 127) #[] #[.pointer (some ⟨1,0,some 0⟩),.pointer (some ⟨2,0,some 0⟩)]))]++pu 5++[.v (.int .i64),.v (.int .i64)]++pu 10,saved:=[[.v (.sl 0),.v (.c (.func (.func 127) #[] #[.pointer (some ⟨1,0,some 0⟩),.pointer (some ⟨2,0,some 0⟩)]))]++pu 2++[.v (.c (.bool false)),.v (.sl 0),.v (.c (.func (.func 127) #[] #[.pointer (some ⟨1,0,some 0⟩),.pointer (some ⟨2,0,some 0⟩)]))]++pu 2,[.v (.int .i64),.v (.int .i64),.v (.sl 0),.v (.c (.pointer (some ⟨1,0,some 0⟩))),.v (.c (.pointer (some ⟨2,0,some 0⟩)))]++pu 1++[.v (.c (.bool false)),.v (.sl 0),.v (.c (.func (.func 127) #[] #[.pointer (some ⟨1,0,some 0⟩),.pointer (some ⟨2,0,some 0⟩)]))]++pu 2,[]],mem:=[.row Ar false,.box [.v (.int .i64)],.box [.v (.int .i64)]]}
structure A_l41 where
 n:Nat
 len:Int
 j:Int
 n_2:Nat
 n_3:Nat
 lw:Int
 up:Int
 n_4:Nat
 n_5:Nat
 r:Row
 lb:Int
 hb:Int
def jS(its:List It):Option A_l41:=match its with|[.n n,.i len,.i j,.n n_2,.n n_3,.i lw,.i up,.n n_4,.n n_5,.r r,.i lb,.i hb]=>some ⟨n,len,j,n_2,n_3,lw,up,n_4,n_5,r,lb,hb⟩|_=>none
def qG(x:A_l41):Bool:=x.j=0∧x.len=x.n∧x.n_2=x.n∧x.n_3=x.n∧x.n_4=x.n∧x.n_5=x.n∧x.n<=1000000
def c_l41_iff{x:A_l41}:=@Bl _ qG _ _ rfl x
def l41:ScanL A_l41:=⟨126,2,[0,1,7,8],[4],gZ,jS,fun x j=>[.n x.n,.i (x.n:Int),.i (j:Int),.n x.n,.n x.n,.i x.lw,.i x.up,.n x.n,.n x.n,.r x.r,.i x.lb,.i x.hb],fun x=>x.n,qG,fun x j=>JL x.lb x.hb (x.r.I j 0),fun x j K=>K .ret ⟨us 4++[i64 ((j:Int))]++us 14,[[S_ 0 0 x.n,.func (.func 127) #[] #[.pointer (some ⟨1,0,some 0⟩),.pointer (some ⟨2,0,some 0⟩)]]++us 2++[.bool false,S_ 0 0 x.n,.func (.func 127) #[] #[.pointer (some ⟨1,0,some 0⟩),.pointer (some ⟨2,0,some 0⟩)]]++us 2,[i64 x.lw,i64 x.up,S_ 0 0 x.n,.pointer (some ⟨1,0,some 0⟩),.pointer (some ⟨2,0,some 0⟩)]++us 1++[.bool false,S_ 0 0 x.n,.func (.func 127) #[] #[.pointer (some ⟨1,0,some 0⟩),.pointer (some ⟨2,0,some 0⟩)]]++us 2,[]],[Au Ar x.r,some (.box [i64 x.lb]),some (.box [i64 x.hb])]⟩,fun x K=>K (.exit 0) ⟨us 19,[[S_ 0 0 x.n,.func (.func 127) #[] #[.pointer (some ⟨1,0,some 0⟩),.pointer (some ⟨2,0,some 0⟩)]]++us 2++[.bool false,S_ 0 0 x.n,.func (.func 127) #[] #[.pointer (some ⟨1,0,some 0⟩),.pointer (some ⟨2,0,some 0⟩)]]++us 2,[i64 x.lw,i64 x.up,S_ 0 0 x.n,.pointer (some ⟨1,0,some 0⟩),.pointer (some ⟨2,0,some 0⟩)]++us 1++[.bool false,S_ 0 0 x.n,.func (.func 127) #[] #[.pointer (some ⟨1,0,some 0⟩),.pointer (some ⟨2,0,some 0⟩)]]++us 2,[]],[Au Ar x.r,some (.box [i64 x.lb]),some (.box [i64 x.hb])]⟩⟩
def Aj4:FD
 |[.slice [.slice [.int .i64]] r,.v (.func (.func 81) ⟨[]⟩ ⟨[]⟩)]=>some (r.n<=1000000,[.v (.bool (Ag (fun j=>decide (((r.R j 0).n:Int)>10)) r.n 0))])
 |_=>none
def Ams:FD
 |[.slice [.int .i64] r,.v (.func (.func 82) ⟨[]⟩ ⟨[]⟩)]=>some (r.n<=1000000,[.v (.bool (Ag (fun j=>N9 (r.I j 0)) r.n 0))])
 |_=>none
def Hy(r:Row):Bool:=Ag (fun j=>decide (((r.R j 0).n:Int)>10)) r.n 0
def Alg(r:Row):Bool:=Ag (fun j=>N9 (r.I j 0)) r.n 0
def FV(r:Row)(j:Nat):Bool:=(((r.R j 0).n:Int) !=((r.R 0 0).n:Int))||Alg (r.R j 0)
def Ahf:Dl:={τ:=pu 1++[.v (.c (.pointer (some ⟨0,0,some 0⟩)))]++pu 1++[.v (.c (.func (.func 82) #[] #[]))]++pu 16++[.v (.sl 1),.v (.int .i64),.v (.int .i64)]++pu 17,saved:=[[]],mem:=[.box [.v (.sl 1)],.row Cc false]}
structure A_l7 where
 n:Nat
 len:Int
 j:Int
 n_2:Nat
 r:Row
def Aim(its:List It):Option A_l7:=match its with|[.n n,.i len,.i j,.n n_2,.r r]=>some ⟨n,len,j,n_2,r⟩|_=>none
def Alc(x:A_l7):Bool:=x.j=0∧x.len=x.n∧x.n_2=x.n∧x.n<=6∧Hy x.r=false∧x.r.n=x.n
def c_l7_iff{x:A_l7}:=@Bl _ Alc _ _ rfl x
def l7:ScanL A_l7:=⟨35,7,[1,3,20,21,22],[2],Ahf,Aim,fun x j=>[.n x.n,.i (x.n:Int),.i (j:Int),.n x.n,.r x.r],fun x=>x.n,Alc,fun x j=>FV x.r j,fun x j K=>K .ret ⟨us 2++[i64 8]++us 37,[[]],[]⟩,fun x K=>K (.exit 0) ⟨us 40,[[]],[]⟩⟩
noncomputable def C23:Cx:=AP Tryz.prog fns [] [l22.C]
noncomputable def C20:Cx:=AP Tryz.prog fns [] [l21.C]
noncomputable def C24:Cx:=AP Tryz.prog fns [] [l41.C]
noncomputable def C7:Cx:=AP Tryz.prog fns [(80,Aj4),(83,Ams)] [l7.C]
def Aen(R:St->OD)(K:X->St->OD)(q n:Nat)(len j:Int)(n_2 n_3:Nat)(r:Row):Ak C23 126 2 q (bst jR [.n n,.i len,.i j,.n n_2,.n n_3,.r r]) (BF [0,1,7,8] (some [4]) R K)=br (j<len) (br (0<=j&&j<(n:Int)) (br (r.I (0+j.toNat) 0<0) (K .ret ⟨us 4++[i64 j]++us 14,[[S_ 0 0 n_2,.func (.func 82) #[] #[]]++us 2++[.bool false,S_ 0 0 n_3,.func (.func 82) #[] #[]]++us 2,[]],[Au Ar r]⟩) (br (r.I (0+j.toNat) 0>1000) (K .ret ⟨us 4++[i64 j]++us 14,[[S_ 0 0 n_2,.func (.func 82) #[] #[]]++us 2++[.bool false,S_ 0 0 n_3,.func (.func 82) #[] #[]]++us 2,[]],[Au Ar r]⟩) (R (bst jR [.n n,.i len,.i (IntKind.i64.wrap (j+1)),.n n_2,.n n_3,.r r])))) none) (K (.exit 0) ⟨us 19,[[S_ 0 0 n_2,.func (.func 82) #[] #[]]++us 2++[.bool false,S_ 0 0 n_3,.func (.func 82) #[] #[]]++us 2,[]],[Au Ar r]⟩):=k_
def Adj(R:St->OD)(K:X->St->OD)(q n:Nat)(len j:Int)(n_2 n_3:Nat)(r:Row):Ak C20 125 2 q (bst dX [.n n,.i len,.i j,.n n_2,.n n_3,.r r]) (BF [0,1,7,8] (some [4]) R K)=br (j<len) (br (0<=j&&j<(n:Int)) (br ((↑(r.R (0+j.toNat) 0).n:Int)>10) (K .ret ⟨us 4++[i64 j]++us 14,[[S_ 0 0 n_2,.func (.func 81) #[] #[]]++us 2++[.bool false,S_ 0 0 n_3,.func (.func 81) #[] #[]]++us 2,[]],[Au Cc r]⟩) (R (bst dX [.n n,.i len,.i (IntKind.i64.wrap (j+1)),.n n_2,.n n_3,.r r]))) none) (K (.exit 0) ⟨us 19,[[S_ 0 0 n_2,.func (.func 81) #[] #[]]++us 2++[.bool false,S_ 0 0 n_3,.func (.func 81) #[] #[]]++us 2,[]],[Au Cc r]⟩):=k_
def Ad3(R:St->OD)(K:X->St->OD)(q n:Nat)(len j:Int)(n_2 n_3:Nat)(lw up:Int)(n_4 n_5:Nat)(r:Row)(lb hb:Int):Ak C24 126 2 q (bst gZ [.n n,.i len,.i j,.n n_2,.n n_3,.i lw,.i up,.n n_4,.n n_5,.r r,.i lb,.i hb]) (BF [0,1,7,8] (some [4]) R K)=br (j<len) (br (0<=j&&j<(n:Int)) (br (r.I (0+j.toNat) 0<lb) (K .ret ⟨us 4++[i64 j]++us 14,[[S_ 0 0 n_2,.func (.func 127) #[] #[.pointer (some ⟨1,0,some 0⟩),.pointer (some ⟨2,0,some 0⟩)]]++us 2++[.bool false,S_ 0 0 n_3,.func (.func 127) #[] #[.pointer (some ⟨1,0,some 0⟩),.pointer (some ⟨2,0,some 0⟩)]]++us 2,[i64 lw,i64 up,S_ 0 0 n_4,.pointer (some ⟨1,0,some 0⟩),.pointer (some ⟨2,0,some 0⟩)]++us 1++[.bool false,S_ 0 0 n_5,.func (.func 127) #[] #[.pointer (some ⟨1,0,some 0⟩),.pointer (some ⟨2,0,some 0⟩)]]++us 2,[]],[Au Ar r,some (.box [i64 lb]),some (.box [i64 hb])]⟩) (br (r.I (0+j.toNat) 0>=hb) (K .ret ⟨us 4++[i64 j]++us 14,[[S_ 0 0 n_2,.func (.func 127) #[] #[.pointer (some ⟨1,0,some 0⟩),.pointer (some ⟨2,0,some 0⟩)]]++us 2++[.bool false,S_ 0 0 n_3,.func (.func 127) #[] #[.pointer (some ⟨1,0,some 0⟩),.pointer (some ⟨2,0,some 0⟩)]]++us 2,[i64 lw,i64 up,S_ 0 0 n_4,.pointer (some ⟨1,0,some 0⟩),.pointer (some ⟨2,0,some 0⟩)]++us 1++[.bool false,S_ 0 0 n_5,.func (.func 127) #[] #[.pointer (some ⟨1,0,some 0⟩),.pointer (some ⟨2,0,some 0⟩)]]++us 2,[]],[Au Ar r,some (.box [i64 lb]),some (.box [i64 hb])]⟩) (R (bst gZ [.n n,.i len,.i (IntKind.i64.wrap (j+1)),.n n_2,.n n_3,.i lw,.i up,.n n_4,.n n_5,.r r,.i lb,.i hb])))) none) (K (.exit 0) ⟨us 19,[[S_ 0 0 n_2,.func (.func 127) #[] #[.pointer (some ⟨1,0,some 0⟩),.pointer (some ⟨2,0,some 0⟩)]]++us 2++[.bool false,S_ 0 0 n_3,.func (.func 127) #[] #[.pointer (some ⟨1,0,some 0⟩),.pointer (some ⟨2,0,some 0⟩)]]++us 2,[i64 lw,i64 up,S_ 0 0 n_4,.pointer (some ⟨1,0,some 0⟩),.pointer (some ⟨2,0,some 0⟩)]++us 1++[.bool false,S_ 0 0 n_5,.func (.func 127) #[] #[.pointer (some ⟨1,0,some 0⟩),.pointer (some ⟨2,0,some 0⟩)]]++us 2,[]],[Au Ar r,some (.box [i64 lb]),some (.box [i64 hb])]⟩):=k_
def Aok(R:St->OD)(K:X->St->OD)(q n:Nat)(len j:Int)(n_2:Nat)(r:Row):Ak C7 35 7 q (bst Ahf [.n n,.i len,.i j,.n n_2,.r r]) (BF [1,3,20,21,22] (some [2]) R K)=br (j<len) (br (0<=j&&j<(n:Int)) (br ((0:Int)<=0&&0<(n_2:Int)) (br ((↑(r.R (0+j.toNat) 0).n:Int) !=(↑(r.R 0 0).n:Int)) (l7.Kb ⟨n,len,j,n_2,r⟩ 0 K) (br ((w_ (r.R (0+j.toNat) 0) 0 (r.R (0+j.toNat) 0).n).n<=1000000) (br (Ag (fun j_1=>N9 ((w_ (r.R (0+j.toNat) 0) 0 (r.R (0+j.toNat) 0).n).I j_1 0)) (w_ (r.R (0+j.toNat) 0) 0 (r.R (0+j.toNat) 0).n).n 0) (l7.Kb ⟨n,len,j,n_2,r⟩ 0 K) (R (bst Ahf [.n n,.i len,.i (IntKind.i64.wrap (j+1)),.n n_2,.r r]))) none)) none) none) (l7.Ke ⟨n,len,j,n_2,r⟩ K):=k_
def u23(r:Row):BH C23 6 83 [.slice Hf r,.v (.func (.func 82) #[] #[])]=br (rH (⟨r.n,(r.n:Int),0,r.n,r.n,r⟩:A_l22)) (br (Ag (fun j=>N9 (r.I j 0)) r.n 0) (some [.v (.bool ((↑(FZ (l22.bad (⟨r.n,(r.n:Int),0,r.n,r.n,r⟩:A_l22)) (l22.len (⟨r.n,(r.n:Int),0,r.n,r.n,r⟩:A_l22)) 0):Int)>=0))]) (some [.v (.bool (-1>=0))])) (none):=k_
def u20(r:Row):BH C20 6 80 [.slice Oc r,.v (.func (.func 81) #[] #[])]=br (jL (⟨r.n,(r.n:Int),0,r.n,r.n,r⟩:A_l21)) (br (Ag (fun j=>decide ((↑(r.R j 0).n:Int)>10)) r.n 0) (some [.v (.bool ((↑(FZ (l21.bad (⟨r.n,(r.n:Int),0,r.n,r.n,r⟩:A_l21)) (l21.len (⟨r.n,(r.n:Int),0,r.n,r.n,r⟩:A_l21)) 0):Int)>=0))]) (some [.v (.bool (-1>=0))])) (none):=k_
def u24(lo hi:Int)(r:Row):BH C24 6 84 [.v (i64 lo),.v (i64 hi),.slice Hf r]=br (qG (⟨r.n,(r.n:Int),0,r.n,r.n,lo,hi,r.n,r.n,r,lo,hi⟩:A_l41)) (br (Ag (fun j=>JL lo hi (r.I j 0)) r.n 0) (some [.v (.bool (!decide ((↑(FZ (l41.bad (⟨r.n,(r.n:Int),0,r.n,r.n,lo,hi,r.n,r.n,r,lo,hi⟩:A_l41)) (l41.len (⟨r.n,(r.n:Int),0,r.n,r.n,lo,hi,r.n,r.n,r,lo,hi⟩:A_l41)) 0):Int)>=0)))]) (some [.v (.bool (!decide (-1>=0)))])) (none):=k_
def u7(r:Row):BH C7 6 35 [.agg [.slice Oc r]]=br ((r.n:Int)>6) (some [.v (i64 4)]) (br ((w_ r 0 r.n).n<=1000000) (br (Ag (fun j=>decide ((↑((w_ r 0 r.n).R j 0).n:Int)>10)) (w_ r 0 r.n).n 0) (some [.v (i64 4)]) (br ((r.n:Int)==0) (some [.v (i64 8)]) (br (Alc (⟨r.n,(r.n:Int),0,r.n,r⟩:A_l7)) (br (Ag (fun j=>FV r j) r.n 0) (some [.v (i64 8)]) (some [.v (i64 0)])) none))) none):=k_
def Ah7:Ah C23 l22.C:=l22.ok k_
 (fun its x h hc=>by
  replace h:sW its=some x:=h;unfold sW at h;split at h
  ·cases h;have h:=c_l22_iff.1 hc;dsimp only at h;obtain⟨rfl,rfl,rfl,rfl,_⟩:=h;rfl
  ·cases h)
 (fun x hc=>by have:=c_l22_iff.1 hc;show x.n<2^64;omega)
 (fun q ⟨n,len0,j0,n_2,n_3,r⟩ j hc hi R K=>by
  obtain⟨h1,h2,h3,h4,h5⟩:=c_l22_iff.1 hc;dsimp only at*
  replace hi:j<n:=hi;refine(Aen R K q n ((n:Int)) ((j:Int)) n n r).trans ?_;rw[A9,AE j,gd j n hi,DX j n hi,Eg o_,Aa,Aa];exact(Fz _ _ _ _).symm)
 (fun q ⟨n,len0,j0,n_2,n_3,r⟩ hc R K=>by
  obtain⟨h1,h2,h3,h4,h5⟩:=c_l22_iff.1 hc;dsimp only at*
  refine(Aen R K q n ((n:Int)) ((n:Int)) n n r).trans ?_;rw[EU n];rfl)
def Ake:Ah C20 l21.C:=l21.ok k_
 (fun its x h hc=>by
  replace h:dW its=some x:=h;unfold dW at h;split at h
  ·cases h;have h:=c_l21_iff.1 hc;dsimp only at h;obtain⟨rfl,rfl,rfl,rfl,_⟩:=h;rfl
  ·cases h)
 (fun x hc=>by have:=c_l21_iff.1 hc;show x.n<2^64;omega)
 (fun q ⟨n,len0,j0,n_2,n_3,r⟩ j hc hi R K=>by
  obtain⟨h1,h2,h3,h4,h5⟩:=c_l21_iff.1 hc;dsimp only at*
  replace hi:j<n:=hi;refine(Adj R K q n ((n:Int)) ((j:Int)) n n r).trans ?_;rw[A9,AE j,gd j n hi,DX j n hi,Eg o_];rfl)
 (fun q ⟨n,len0,j0,n_2,n_3,r⟩ hc R K=>by
  obtain⟨h1,h2,h3,h4,h5⟩:=c_l21_iff.1 hc;dsimp only at*
  refine(Adj R K q n ((n:Int)) ((n:Int)) n n r).trans ?_;rw[EU n];rfl)
def Am1:Ah C24 l41.C:=l41.ok k_
 (fun its x h hc=>by
  replace h:jS its=some x:=h;unfold jS at h;split at h
  ·cases h;have h:=c_l41_iff.1 hc;dsimp only at h;obtain⟨rfl,rfl,rfl,rfl,rfl,rfl,_⟩:=h;rfl
  ·cases h)
 (fun x hc=>by have:=c_l41_iff.1 hc;show x.n<2^64;omega)
 (fun q ⟨n,len0,j0,n_2,n_3,lw,up,n_4,n_5,r,lb,hb⟩ j hc hi R K=>by
  obtain⟨h1,h2,h3,h4,h5,h6,h7⟩:=c_l41_iff.1 hc;dsimp only at*
  replace hi:j<n:=hi;refine(Ad3 R K q n ((n:Int)) ((j:Int)) n n lw up n n r lb hb).trans ?_;rw[A9,AE j,gd j n hi,DX j n hi,Eg o_,Aa,Aa];exact(Fz _ _ _ _).symm)
 (fun q ⟨n,len0,j0,n_2,n_3,lw,up,n_4,n_5,r,lb,hb⟩ hc R K=>by
  obtain⟨h1,h2,h3,h4,h5,h6,h7⟩:=c_l41_iff.1 hc;dsimp only at*
  refine(Ad3 R K q n ((n:Int)) ((n:Int)) n n lw up n n r lb hb).trans ?_;rw[EU n];rfl)
def Aoi:Ah C7 l7.C:=l7.ok k_
 (fun its x h hc=>by
  replace h:Aim its=some x:=h;unfold Aim at h;split at h
  ·cases h;have h:=c_l7_iff.1 hc;dsimp only at h;obtain⟨rfl,rfl,rfl,_⟩:=h;rfl
  ·cases h)
 (fun x hc=>by have:=c_l7_iff.1 hc;show x.n<2^64;omega)
 (fun q ⟨n,len0,j0,n_2,r⟩ j hc hi R K=>by
  obtain⟨h1,h2,h3,h4,h5,h6⟩:=c_l7_iff.1 hc;dsimp only at*
  replace hi:j<n:=hi;refine(Aok R K q n ((n:Int)) ((j:Int)) n r).trans ?_;have hb:=anyF_false.1 (show Ag _ _ _=false from h5) j (Nat.zero_le _) o_;replace hb:=AO hb;rw[A9,AE j,gd j n hi,DX j n hi,Eg o_,show decide ((w_ (r.R j 0) 0 (r.R j 0).n).n<=1000000)=true from A4 (by rw[wn_];omega),show(decide ((0:Int)<=0)&&decide ((0:Int)<(n:Int)))=true by simp only[A2,A3];omega,Aa,Aa,Aa,Aa];exact(Fz _ _ _ _).symm)
 (fun q ⟨n,len0,j0,n_2,r⟩ hc R K=>by
  obtain⟨h1,h2,h3,h4,h5,h6⟩:=c_l7_iff.1 hc;dsimp only at*
  refine(Aok R K q n ((n:Int)) ((n:Int)) n r).trans ?_;rw[EU n];rfl)
def Ag8:Be C23:=Aj enter mixed AX (Aw Ah7 AX)
def Ais:Be C20:=Aj enter mixed AX (Aw Ake AX)
def Alu:Be C24:=Aj enter mixed AX (Aw Am1 AX)
def Aam:Den Tryz.prog 83 Ams:=Af Ag8 fun ds rs h=>by
 unfold Ams at h;split at h
 ·rename_i r;simp only[A5,A6]at h;obtain⟨h0,rfl⟩:=h;have h0:=AD h0;refine(u23 r).trans ?_;rw[c_l22_iff.2 ⟨rfl,rfl,rfl,rfl,h0⟩,Aa];show br (Ag (fun j=>N9 (r.I j 0)) r.n 0) _ _=some [D.v (.bool (Ag (fun j=>N9 (r.I j 0)) r.n 0))];cases Ag (fun j=>N9 (r.I j 0)) r.n 0
  ·rfl
  ·rw[Aa,A4 o_]
 ·cases h
def Aa9:Den Tryz.prog 80 Aj4:=Af Ais fun ds rs h=>by
 unfold Aj4 at h;split at h
 ·rename_i r;simp only[A5,A6]at h;obtain⟨h0,rfl⟩:=h;have h0:=AD h0;refine(u20 r).trans ?_;rw[c_l21_iff.2 ⟨rfl,rfl,rfl,rfl,h0⟩,Aa];show br (Ag (fun j=>decide (((r.R j 0).n:Int)>10)) r.n 0) _ _=some [D.v (.bool (Ag (fun j=>decide (((r.R j 0).n:Int)>10)) r.n 0))];cases Ag (fun j=>decide (((r.R j 0).n:Int)>10)) r.n 0
  ·rfl
  ·rw[Aa,A4 o_]
 ·cases h
def Tv(lo hi:Int)(r:Row):Bool:= !Ag (fun j=>JL lo hi (r.I j 0)) r.n 0
def Alk:FD
 |[.v (.int .i64 lo),.v (.int .i64 hi),.slice [.int .i64] r]=>some (r.n<=1000000,[.v (.bool (Tv lo hi r))])
 |_=>none
def VM:Den Tryz.prog 84 Alk:=Af Alu fun ds rs h=>by
 unfold Alk at h;split at h
 ·rename_i lo hi r;simp only[A5,A6]at h;obtain⟨h0,rfl⟩:=h;have h0:=AD h0;refine(u24 lo hi r).trans ?_;rw[c_l41_iff.2 ⟨rfl,rfl,rfl,rfl,rfl,rfl,h0⟩,Aa];unfold Tv;show br (Ag (fun j=>JL lo hi (r.I j 0)) r.n 0) _ _=_;cases Ag (fun j=>JL lo hi (r.I j 0)) r.n 0
  ·rfl
  ·rw[Aa,A4 o_]
 ·cases h
def tK:Be C7:=Aj enter mixed (Aw Aa9<|Aw Aam AX) (Aw Aoi AX)
def chkE(r:Row):Int:=bif decide ((r.n:Int)>6)||Hy r then 4 else bif (r.n:Int)==0||Ag (FV r) r.n 0 then 8 else 0
def Fchk:FD
 |[.agg [.slice [.slice [.int .i64]] r]]=>some (r.n<=1000000,[.v (i64 (chkE r))])
 |_=>none
def den_chk:Den Tryz.prog 35 Fchk:=Af tK fun ds rs h=>by
 unfold Fchk at h;split at h
 ·rename_i r;simp only[A5,A6]at h;obtain⟨h0,rfl⟩:=h;have h0:=AD h0;refine(u7 r).trans ?_;unfold chkE;by_cases c1:(r.n:Int)>6
  ·rw[A4 c1];rfl
  ·rw[AB c1,Ac,A4 (show(w_ r 0 r.n).n<=1000000 by rw[wn_];exact h0),Aa,Bool.false_or];show br (Hy r) _ _=_;cases c2:Hy r
   ·rw[Ac];cases c3:(r.n:Int)==0
    ·rw[Ac,c_l7_iff.2 ⟨rfl,rfl,rfl,by dsimp only;omega,c2,rfl⟩,Aa];show br (Ag (FV r) r.n 0) _ _=_;cases Ag (FV r) r.n 0<;>rfl
    ·rfl
   ·rfl
 ·cases h
def OA{r:Row}(h:chkE r=0):1<=r.n∧r.n<=6∧∀i,i<r.n->(r.R i 0).n=(r.R 0 0).n∧(r.R i 0).n<=10∧∀k,k<(r.R i 0).n->0<=(r.R i 0).I k 0∧(r.R i 0).I k 0<=1000:=by
 unfold chkE at h;cases c1:decide ((r.n:Int)>6)||Hy r
 ·rw[c1,cond_false]at h;rw[AI,decide_eq_false_iff_not]at c1;cases c2:(r.n:Int)==0||Ag (FV r) r.n 0
  ·rw[AI]at c2;have c3:¬(r.n:Int)=0:=by simpa using c2.1
   refine⟨o_,o_,fun i hi=>?_⟩;have c4:=anyF_false.1 c2.2 i (Nat.zero_le _) o_;have c5:=AO (anyF_false.1 c1.2 i (Nat.zero_le _) o_);unfold FV at c4;rw[AI]at c4;have c6:((r.R i 0).n:Int)=((r.R 0 0).n:Int):=by simpa using c4.1
   refine⟨o_,o_,fun k hk=>?_⟩;have c7:=anyF_false.1 c4.2 k (Nat.zero_le _) o_;simp only[N9,AI,decide_eq_false_iff_not]at c7;omega
  ·rw[c2]at h;cases h
 ·rw[c1]at h;cases h
noncomputable def C8:Cx:=AP Tryz.prog fns [(35,Fchk),(84,Alk)] []
def Aq5:Be C8:=Aj enter mixed (Aw den_chk<|Aw VM AX) AX
def u8(r a:Row):BH C8 6 36 [.agg [.slice Oc r],.slice Hf a]=br ((w_ r 0 r.n).n<=1000000) (br (chkE (w_ r 0 r.n) !=0) (some [.v (i64 (chkE (w_ r 0 r.n)))]) (br ((0:Int)<=0&&0<(r.n:Int)) (br ((a.n:Int) !=(↑(r.R 0 0).n:Int)) (some [.v (i64 8)]) (br ((w_ a 0 a.n).n<=1000000) (br (!Tv (-1) (r.n:Int) (w_ a 0 a.n)) (some [.v (i64 8)]) (some [.v (i64 0)])) none)) none)) (none):=k_
def Gz(r a:Row):Int:=bif chkE r !=0 then chkE r else bif (a.n:Int) !=((r.R 0 0).n:Int)|| !Tv (-1) r.n a then 8 else 0
def nJ:FD
 |[.agg [.slice [.slice [.int .i64]] r],.slice [.int .i64] a]=>some (r.n<=1000000∧a.n<=1000000,[.v (i64 (Gz r a))])
 |_=>none
def den_val:Den Tryz.prog 36 nJ:=Af Aq5 fun ds rs h=>by
 unfold nJ at h;split at h
 ·rename_i r a;simp only[A5,A6]at h;obtain⟨h0,rfl⟩:=h;have h0:=AD h0;refine(u8 r a).trans ?_;unfold Gz;rw[A4 (show(w_ r 0 r.n).n<=1000000 by rw[wn_];exact h0.1),Aa];show br (chkE r !=0) _ _=_;cases c1:chkE r !=0
  ·have c1:chkE r=0:=by simpa using c1
   have c2:=(OA c1).1;rw[Ac,show(decide ((0:Int)<=0)&&decide ((0:Int)<(r.n:Int)))=true by simp only[A2,A3];omega,Aa];cases c3:(a.n:Int) !=((r.R 0 0).n:Int)
   ·rw[Ac,A4 (show(w_ a 0 a.n).n<=1000000 by rw[wn_];exact h0.2),Aa];show br (!Tv (-1) r.n a) _ _=_;cases Tv (-1) r.n a<;>rfl
   ·rfl
  ·rfl
 ·cases h
def dU{r a:Row}(h:Gz r a=0):chkE r=0∧a.n=(r.R 0 0).n∧∀k,k<a.n-> -1<=a.I k 0∧a.I k 0<r.n:=by
 unfold Gz at h;cases c1:chkE r !=0
 ·rw[c1,cond_false]at h;have c1:chkE r=0:=by simpa using c1
  cases c2:(a.n:Int) !=((r.R 0 0).n:Int)|| !Tv (-1) r.n a
  ·rw[AI]at c2;have c3:(a.n:Int)=((r.R 0 0).n:Int):=by simpa using c2.1
   refine⟨c1,o_,fun k hk=>?_⟩;have c4:=c2.2;unfold Tv at c4;rw[Bool.not_not]at c4;have c5:=anyF_false.1 c4 k (Nat.zero_le _) o_;simp only[JL,AI,decide_eq_false_iff_not]at c5;omega
  ·rw[c2]at h;cases h
 ·rw[c1,cond_true]at h;rw[h]at c1;cases c1
def Em(o w:Row):Row:=(w_ o 0 o.n).app (w_ ((Row.zeros 1).setR 0 0 w) 0 1)
def Abw{o w:Row}{i:Nat}(h:i<o.n):(Em o w).R i 0=o.R i 0:=by
 show(bif Nat.blt i (w_ o 0 o.n).n then(w_ o 0 o.n).R i 0 else _)=_;rw[wn_,show Nat.blt i o.n=true by rw[Nat.blt_eq];exact h];rfl
def yI{o w:Row}{i:Nat}(h:i=o.n):(Em o w).R i 0=w:=by
 subst h;show(bif Nat.blt o.n (w_ o 0 o.n).n then(w_ o 0 o.n).R o.n 0 else(bif Nat.beq (o.n-(w_ o 0 o.n).n) 0&&Nat.beq 0 0 then w else _))=_;rw[wn_,show Nat.blt o.n o.n=false from Bool.eq_false_iff.2 (by rw[Ne,Nat.blt_eq];exact Nat.lt_irrefl _),Nat.sub_self];rfl
def Ae(r:Row):Row:=w_ r 0 r.n
def mM:Dl:={τ:=[.v (.sl 0),.v (.sl 1)]++pu 3++[.v (.int .i64)]++pu 20,saved:=[[]],mem:=[.row Ar false,.row Ar false]}
structure A_l15 where
 n:Nat
 n_2:Nat
 j:Int
 r:Row
 s:Row
def nG(its:List It):Option A_l15:=match its with|[.n n,.n n_2,.i j,.r r,.r s]=>some ⟨n,n_2,j,r,s⟩|_=>none
def jJ(x:A_l15):Bool:=x.j=0∧x.n_2=x.n∧x.n<=1000000
def c_l15_iff{x:A_l15}:=@Bl _ jJ _ _ rfl x
def l15:ScanL A_l15:=⟨54,4,[0,1,5],[4],mM,nG,fun x j=>[.n x.n,.n x.n,.i (j:Int),.r x.r,.r x.s],fun x=>x.n,jJ,fun x j=>x.r.I j 0 !=x.s.I j 0,fun x j K=>K .ret ⟨us 4++[.bool false]++us 21,[[]],[]⟩,fun x K=>K (.exit 0) ⟨us 26,[[]],[]⟩⟩
noncomputable def C15:Cx:=AP Tryz.prog fns [] [l15.C]
def MC(r s:Row):Bool:=(r.n:Int)==(s.n:Int)&& !Ag (fun j=>r.I j 0 !=s.I j 0) r.n 0
def Abp:FD
 |[.slice [.int .i64] r,.slice [.int .i64] s]=>some (r.n<=1000000,[.v (.bool (MC r s))])
 |_=>none
def wQ:Dl:={τ:=[.v (.sl 0),.v (.sl 1)]++pu 3++[.v (.int .i64)]++pu 21,saved:=[[]],mem:=[.row Cc false,.row Cc false]}
structure A_l14 where
 n:Nat
 n_2:Nat
 j:Int
 r:Row
 s:Row
def iK(its:List It):Option A_l14:=match its with|[.n n,.n n_2,.i j,.r r,.r s]=>some ⟨n,n_2,j,r,s⟩|_=>none
def pY(x:A_l14):Bool:=x.j=0∧x.n_2=x.n∧x.n<=1000000∧(∀i,i<x.n->(x.r.R i 0).n<=1000000)
def c_l14_iff{x:A_l14}:=@Bl _ pY _ _ rfl x
def l14:ScanL A_l14:=⟨53,4,[0,1,5],[4],wQ,iK,fun x j=>[.n x.n,.n x.n,.i (j:Int),.r x.r,.r x.s],fun x=>x.n,pY,fun x j=> !MC (x.r.R j 0) (x.s.R j 0),fun x j K=>K .ret ⟨us 4++[.bool false]++us 22,[[]],[]⟩,fun x K=>K (.exit 0) ⟨us 27,[[]],[]⟩⟩
noncomputable def C14:Cx:=AP Tryz.prog fns [(54,Abp)] [l14.C]
def Aix:Dl:={τ:=pu 1++[.v (.sl 0),.v (.c (.pointer (some ⟨1,0,some 0⟩)))]++pu 2++[.v (.int .i64)]++pu 27,saved:=[[]],mem:=[.row Ar false,.box [.v (.sl 2)],.row Cc false]}
structure A_l5 where
 an:Nat
 j:Int
 a0:Row
 rn:Nat
 r:Row
def Amo(its:List It):Option A_l5:=match its with|[.n an,.i j,.r a0,.n rn,.r r]=>some ⟨an,j,a0,rn,r⟩|_=>none
def Aio(x:A_l5):Bool:=x.j=0∧x.an=x.an
def c_l5_iff{x:A_l5}:=@Bl _ Aio _ _ rfl x
def l5:ScanL A_l5:=⟨16,2,[1,2,5],[1,2,4],Aix,Amo,fun x j=>[.n x.an,.i (j:Int),.r x.a0,.n x.rn,.r x.r],fun x=>min x.rn 20,Aio,fun x j=>decide (((x.r.R j 0).n:Int)>50),fun x j K=>K .ret ⟨us 1++[S_ 0 0 x.an,.pointer (some ⟨1,0,some 0⟩)]++us 1++[.bool true]++us 28,[[]],[Au Ar x.a0,some (.box [S_ 2 0 x.rn]),Au Cc x.r]⟩,fun x K=>K (.exit 0) ⟨us 1++[S_ 0 0 x.an,.pointer (some ⟨1,0,some 0⟩)]++us 30,[[]],[Au Ar x.a0,some (.box [S_ 2 0 x.rn]),Au Cc x.r]⟩⟩
noncomputable def C5:Cx:=AP Tryz.prog fns [] [l5.C]
def pI:Dl:={τ:=pu 5++[.v (.sl 0),.v (.int .i64),.v (.int .i64)]++pu 7,saved:=[[]],mem:=[.row Ar false]}
structure A_l32 where
 n:Nat
 len:Int
 j:Int
 r:Row
def iJ(its:List It):Option A_l32:=match its with|[.n n,.i len,.i j,.r r]=>some ⟨n,len,j,r⟩|_=>none
def mX(x:A_l32):Bool:=x.j=0∧x.len=x.n∧x.n<=1000000
def c_l32_iff{x:A_l32}:=@Bl _ mX _ _ rfl x
def l32:ScanL A_l32:=⟨34,2,[5,6,7],[2],pI,iJ,fun x j=>[.n x.n,.i (x.n:Int),.i (j:Int),.r x.r],fun x=>x.n,mX,fun x j=>x.r.I j 0 !=0,fun x j K=>K .ret ⟨us 2++[i64 (x.r.I j 0)]++us 12,[[]],[]⟩,fun x K=>K (.exit 0) ⟨us 15,[[]],[]⟩⟩
noncomputable def yK:Cx:=AP Tryz.prog fns [] [l32.C]
def Adv(R:St->OD)(K:X->St->OD)(q n n_2:Nat)(j:Int)(r s:Row):Ak C15 54 4 q (bst mM [.n n,.n n_2,.i j,.r r,.r s]) (BF [0,1,5] (some [4]) R K)=br (j<(n:Int)) (br (0<=j&&j<(n:Int)) (br (0<=j&&j<(n_2:Int)) (br (r.I (0+j.toNat) 0 !=s.I (0+j.toNat) 0) (l15.Kb ⟨n,n_2,j,r,s⟩ 0 K) (R (bst mM [.n n,.n n_2,.i (IntKind.i64.wrap (j+1)),.r r,.r s]))) none) none) (l15.Ke ⟨n,n_2,j,r,s⟩ K):=k_
def Adb(R:St->OD)(K:X->St->OD)(q n n_2:Nat)(j:Int)(r s:Row):Ak C14 53 4 q (bst wQ [.n n,.n n_2,.i j,.r r,.r s]) (BF [0,1,5] (some [4]) R K)=br (j<(n:Int)) (br (0<=j&&j<(n:Int)) (br (0<=j&&j<(n_2:Int)) (br ((w_ (r.R (0+j.toNat) 0) 0 (r.R (0+j.toNat) 0).n).n<=1000000) (br (!MC (w_ (r.R (0+j.toNat) 0) 0 (r.R (0+j.toNat) 0).n) (w_ (s.R (0+j.toNat) 0) 0 (s.R (0+j.toNat) 0).n)) (l14.Kb ⟨n,n_2,j,r,s⟩ 0 K) (R (bst wQ [.n n,.n n_2,.i (IntKind.i64.wrap (j+1)),.r r,.r s]))) none) none) none) (l14.Ke ⟨n,n_2,j,r,s⟩ K):=k_
def Apn(R:St->OD)(K:X->St->OD)(q an:Nat)(j:Int)(a0:Row)(rn:Nat)(r:Row):Ak C5 16 2 q (bst Aix [.n an,.i j,.r a0,.n rn,.r r]) (BF [1,2,5] (some [1,2,4]) R K)=br (j<(rn:Int)) (br (j<20) (br (0<=j&&j<(rn:Int)) (br ((↑(r.R (0+j.toNat) 0).n:Int)>50) (l5.Kb ⟨an,j,a0,rn,r⟩ 0 K) (R (bst Aix [.n an,.i (IntKind.i64.wrap (j+1)),.r a0,.n rn,.r r]))) none) (l5.Ke ⟨an,j,a0,rn,r⟩ K)) (l5.Ke ⟨an,j,a0,rn,r⟩ K):=k_
def Adr(R:St->OD)(K:X->St->OD)(q n:Nat)(len j:Int)(r:Row):Ak yK 34 2 q (bst pI [.n n,.i len,.i j,.r r]) (BF [5,6,7] (some [2]) R K)=br (j<len) (br (0<=j&&j<(n:Int)) (br (r.I (0+j.toNat) 0 !=0) (K .ret ⟨us 2++[i64 (r.I (0+j.toNat) 0)]++us 12,[[]],[]⟩) (R (bst pI [.n n,.i len,.i (IntKind.i64.wrap (j+1)),.r r]))) none) (l32.Ke ⟨n,len,j,r⟩ K):=k_
def u32(r:Row):BH yK 6 34 [.slice Hf r]=br (mX (⟨r.n,(r.n:Int),0,r⟩:A_l32)) (br (Ag (fun j=>r.I j 0 !=0) r.n 0) (some [.v (i64 (r.I (FZ (fun j=>r.I j 0 !=0) r.n 0) 0))]) (some [.v (i64 0)])) (none):=k_
def u15(r s:Row):BH C15 6 54 [.slice Hf r,.slice Hf s]=br ((r.n:Int) !=(s.n:Int)) (some [.v (.bool false)]) (br (jJ (⟨r.n,s.n,0,r,s⟩:A_l15)) (br (Ag (fun j=>r.I j 0 !=s.I j 0) r.n 0) (some [.v (.bool false)]) (some [.v (.bool true)])) none):=k_
def u14(r s:Row):BH C14 6 53 [.slice Oc r,.slice Oc s]=br ((r.n:Int) !=(s.n:Int)) (some [.v (.bool false)]) (br (pY (⟨r.n,s.n,0,r,s⟩:A_l14)) (br (Ag (fun j=> !MC (r.R j 0) (s.R j 0)) r.n 0) (some [.v (.bool false)]) (some [.v (.bool true)])) none):=k_
def u5(r a:Row):BH C5 6 16 [.agg [.slice Oc r],.slice Hf a]=br (Aio (⟨a.n,0,a,r.n,r⟩:A_l5)) (br (Ag (fun j=>decide ((↑(r.R j 0).n:Int)>50)) (min r.n 20) 0) (some [.v (.bool true)]) (br ((r.n:Int)>20) (some [.v (.bool true)]) (some [.v (.bool ((a.n:Int)>50))]))) (none):=k_
def Ai8:Ah C15 l15.C:=l15.ok k_
 (fun its x h hc=>by
  replace h:nG its=some x:=h;unfold nG at h;split at h
  ·cases h;have h:=c_l15_iff.1 hc;dsimp only at h;obtain⟨rfl,rfl,_⟩:=h;rfl
  ·cases h)
 (fun x hc=>by have:=c_l15_iff.1 hc;show x.n<2^64;omega)
 (fun q ⟨n,n_2,j0,r,s⟩ j hc hi R K=>by
  obtain⟨h1,h2,h3⟩:=c_l15_iff.1 hc;dsimp only at*
  replace hi:j<n:=hi;refine(Adv R K q n n ((j:Int)) r s).trans ?_;rw[A9 j,AE j,gd j n hi,DX j n hi,Eg o_];rfl)
 (fun q ⟨n,n_2,j0,r,s⟩ hc R K=>by
  obtain⟨h1,h2,h3⟩:=c_l15_iff.1 hc;dsimp only at*
  refine(Adv R K q n n ((n:Int)) r s).trans ?_;rw[EU n];rfl)
def Amq:Ah C14 l14.C:=l14.ok k_
 (fun its x h hc=>by
  replace h:iK its=some x:=h;unfold iK at h;split at h
  ·cases h;have h:=c_l14_iff.1 hc;dsimp only at h;obtain⟨rfl,rfl,_⟩:=h;rfl
  ·cases h)
 (fun x hc=>by have:=c_l14_iff.1 hc;show x.n<2^64;omega)
 (fun q ⟨n,n_2,j0,r,s⟩ j hc hi R K=>by
  obtain⟨h1,h2,h3,h4⟩:=c_l14_iff.1 hc;dsimp only at*
  replace hi:j<n:=hi;refine(Adb R K q n n ((j:Int)) r s).trans ?_;have k1:=h4 j hi;rw[A9 j,AE j,gd j n hi,DX j n hi,Eg o_,A4 (show(w_ (r.R j 0) 0 (r.R j 0).n).n<=1000000 by rw[wn_];exact k1)];rfl)
 (fun q ⟨n,n_2,j0,r,s⟩ hc R K=>by
  obtain⟨h1,h2,h3,h4⟩:=c_l14_iff.1 hc;dsimp only at*
  refine(Adb R K q n n ((n:Int)) r s).trans ?_;rw[EU n];rfl)
def Anv:Ah C5 l5.C:=l5.ok k_
 (fun its x h hc=>by
  replace h:Amo its=some x:=h;unfold Amo at h;split at h
  ·cases h;have h:=c_l5_iff.1 hc;dsimp only at h;obtain⟨rfl,_⟩:=h;rfl
  ·cases h)
 (fun x hc=>by have:=c_l5_iff.1 hc;show min x.rn 20<18446744073709551616;omega)
 (fun q ⟨an,j0,a0,rn,r⟩ j hc hi R K=>by
  obtain⟨h1,h2⟩:=c_l5_iff.1 hc;dsimp only at*
  replace hi:j<min rn 20:=hi;refine(Apn R K q an ((j:Int)) a0 rn r).trans ?_;rw[A9 j,AE j,gd j rn o_,DX j rn o_,Eg o_,A4 (show(j:Int)<20 by omega)];rfl)
 (fun q ⟨an,j0,a0,rn,r⟩ hc R K=>by
  obtain⟨h1,h2⟩:=c_l5_iff.1 hc;dsimp only at*
  refine(Apn R K q an (((min rn 20:Nat):Int)) a0 rn r).trans ?_;by_cases k:rn<=20
  ·rw[Nat.min_eq_left k,EU rn];rfl
  ·rw[Nat.min_eq_right o_,A4 (show((20:Nat):Int)<(rn:Int) by omega),AB (show¬((20:Nat):Int)<20 by omega)];rfl)
def Agp:Ah yK l32.C:=l32.ok k_
 (fun its x h hc=>by
  replace h:iJ its=some x:=h;unfold iJ at h;split at h
  ·cases h;have h:=c_l32_iff.1 hc;dsimp only at h;obtain⟨rfl,rfl,_⟩:=h;rfl
  ·cases h)
 (fun x hc=>by have:=c_l32_iff.1 hc;show x.n<2^64;omega)
 (fun q ⟨n,len0,j0,r⟩ j hc hi R K=>by
  obtain⟨h1,h2,h3⟩:=c_l32_iff.1 hc;dsimp only at*
  replace hi:j<n:=hi;refine(Adr R K q n ((n:Int)) ((j:Int)) r).trans ?_;rw[A9,AE j,gd j n hi,DX j n hi,Eg o_];rfl)
 (fun q ⟨n,len0,j0,r⟩ hc R K=>by
  obtain⟨h1,h2,h3⟩:=c_l32_iff.1 hc;dsimp only at*
  refine(Adr R K q n ((n:Int)) ((n:Int)) r).trans ?_;rw[EU n];rfl)
def Aks:Be C15:=Aj enter mixed AX (Aw Ai8 AX)
def An5:Be C5:=Aj enter mixed AX (Aw Anv AX)
def XG:Be yK:=Aj enter mixed AX (Aw Agp AX)
def qH{r s:Row}(c:r.n=s.n):((r.n:Int) !=(s.n:Int))=false:=by rw[c];simp
def den_sam:Den Tryz.prog 54 Abp:=Af Aks fun ds rs h=>by
 unfold Abp at h;split at h
 ·rename_i r s;simp only[A5,A6]at h;obtain⟨h0,rfl⟩:=h;have h0:=AD h0;refine(u15 r s).trans ?_;unfold MC;by_cases c:r.n=s.n
  ·rw[qH c,Ac,c_l15_iff.2 ⟨rfl,c.symm,h0⟩,Aa,show((r.n:Int)==(s.n:Int))=true by rw[c];exact beq_self_eq_true _,Bool.true_and];show br (Ag (fun j=>r.I j 0 !=s.I j 0) r.n 0) _ _=_;cases Ag (fun j=>r.I j 0 !=s.I j 0) r.n 0<;>rfl
  ·rw[show((r.n:Int) !=(s.n:Int))=true by simp;omega,show((r.n:Int)==(s.n:Int))=false by simp;omega];rfl
 ·cases h
def Am6:Be C14:=Aj enter mixed (Aw den_sam AX) (Aw Amq AX)
def fE(r s:Row):Bool:=(r.n:Int)==(s.n:Int)&& !Ag (fun j=> !MC (r.R j 0) (s.R j 0)) r.n 0
def Af3:FD
 |[.slice [.slice [.int .i64]] r,.slice [.slice [.int .i64]] s]=>some (decide (r.n<=1000000∧∀i,i<r.n->(r.R i 0).n<=1000000),[.v (.bool (fE r s))])
 |_=>none
def WZ(r a:Row):Bool:=Ag (fun j=>decide (((r.R j 0).n:Int)>50)) (min r.n 20) 0||(decide ((r.n:Int)>20)||decide ((a.n:Int)>50))
def Aj7:FD
 |[.agg [.slice [.slice [.int .i64]] r],.slice [.int .i64] a]=>some (r.n=r.n,[.v (.bool (WZ r a))])
 |_=>none
def Ef(r:Row):Int:=bif Ag (fun j=>r.I j 0 !=0) r.n 0 then r.I (FZ (fun j=>r.I j 0 !=0) r.n 0) 0 else 0
def Akj:FD
 |[.slice [.int .i64] r]=>some (r.n<=1000000,[.v (i64 (Ef r))])
 |_=>none
def den_samL:Den Tryz.prog 53 Af3:=Af Am6 fun ds rs h=>by
 unfold Af3 at h;split at h
 ·rename_i r s;simp only[A5,A6]at h;obtain⟨h0,rfl⟩:=h;have h0:=AD h0;refine(u14 r s).trans ?_;unfold fE;by_cases c:r.n=s.n
  ·rw[qH c,Ac,c_l14_iff.2 ⟨rfl,c.symm,h0.1,h0.2⟩,Aa,show((r.n:Int)==(s.n:Int))=true by rw[c];exact beq_self_eq_true _,Bool.true_and];show br (Ag (fun j=> !MC (r.R j 0) (s.R j 0)) r.n 0) _ _=_;cases Ag (fun j=> !MC (r.R j 0) (s.R j 0)) r.n 0<;>rfl
  ·rw[show((r.n:Int) !=(s.n:Int))=true by simp;omega,show((r.n:Int)==(s.n:Int))=false by simp;omega];rfl
 ·cases h
def zX:Den Tryz.prog 16 Aj7:=Af An5 fun ds rs h=>by
 unfold Aj7 at h;split at h
 ·rename_i r a;simp only[A5,A6]at h;obtain⟨h0,rfl⟩:=h;have h0:=AD h0;refine(u5 r a).trans ?_;rw[c_l5_iff.2 ⟨rfl,rfl⟩,Aa];unfold WZ;show br (Ag (fun j=>decide (((r.R j 0).n:Int)>50)) (min r.n 20) 0) _ (br (decide ((r.n:Int)>20)) _ (some [.v (.bool (decide ((a.n:Int)>50)))]))=some [D.v (.bool (Ag (fun j=>decide (((r.R j 0).n:Int)>50)) (min r.n 20) 0||(decide ((r.n:Int)>20)||decide ((a.n:Int)>50))))];cases Ag (fun j=>decide (((r.R j 0).n:Int)>50)) (min r.n 20) 0<;>cases decide ((r.n:Int)>20)<;>rfl
 ·cases h
def den_fst:Den Tryz.prog 34 Akj:=Af XG fun ds rs h=>by
 unfold Akj at h;split at h
 ·rename_i r;simp only[A5,A6]at h;obtain⟨h0,rfl⟩:=h;have h0:=AD h0;refine(u32 r).trans ?_;rw[c_l32_iff.2 ⟨rfl,rfl,h0⟩,Aa];unfold Ef;show br (Ag (fun j=>r.I j 0 !=0) r.n 0) _ _=_;cases Ag (fun j=>r.I j 0 !=0) r.n 0<;>rfl
 ·cases h
def ksC:List CK:=DV
def ksP:List CK:=Fh
def ksW:List CK:=Es
def ks3:List CK:=Ht
def TR(k:Int)(ca pi:Row)(pc:Int)(wo gv aa fv:Row)(rr:Int)(lr lp:Row)(ld:Int)(ba pa:Row)(cl:Int):D:=.agg [.v (.int .u8 k),.slice ksC ca,.slice ksP pi,.v (.int .u8 pc),.slice ksW wo,.slice Oc gv,.slice Hf aa,.slice Oc fv,.v (i64 rr),.slice Hf lr,.slice Hf lp,.v (i64 ld),.slice Hf ba,.slice ks3 pa,.v (.int .u8 cl)]
end Go.Proofs.YtnljjjghpgdmoaaGreatDoor
namespace Go.Proofs.YtnljjjghpgdmoaaGreatDoor.Ld
open Go.Ev Go.RowKit
def Wt(w:World):Prop:=TabAt 2 Lib.deBruijn64tab w∧2<w.heap.size
def Wt.later{w w':World}(h:Wt w)(hb:Below w.heap.size w w'):Wt w':=⟨fun j hj=>by rw[hb.cell (p:=⟨2,j,none⟩) h.2];exact h.1 j hj,Nat.lt_of_lt_of_le h.2 hb.size⟩
set_option maxHeartbeats 1000000 in
def Aae(x k idx:Nat)(w:World)(hx0:((x:Int)==0)=false)
  (key:IntKind.u64.wrap (bits BinOp.and IntKind.u64 (x:Int) (IntKind.u64.wrap (-(x:Int)))*285870213051353865)/288230376151711744=(idx:Int))
  (hi:idx<64) (hk:k<64) (hcell:w.cell? ⟨2,idx,none⟩=some (.int .u8 k)):
  Calls Tryz.prog 168 #[.int .u64 x] w fun e w'=>e=.returned (.int .i64 k)∧w'=w:=by
 go_enter Tryz.func168,Tryz.ntmps168
 go_wp2_with (simp only[key])
 go_ret
 exact⟨rfl,rfl⟩
def Abd(x:Int):Int:=(Lib.ctz 64 x.toNat:Int)
def Ftz:FD
 |[.v (.int .u64 x)]=>some (decide (0<x)&&decide (x<18446744073709551616),[.v (i64 (Abd x))])
 |_=>none
def Ak0:DenW Tryz.prog Wt 168 Ftz:=Qi (fun _ _ h hb=>h.later hb) fun ds rs h=>by
 unfold Ftz at h;split at h
 ·rename_i x;simp only[A5,A6,A2,A3]at h;obtain⟨⟨h0,h1⟩,rfl⟩:=h;refine⟨[.int .u64 x],[i64 (Abd x)],rfl,rfl,fun y hy=>?_,fun y hy=>?_,fun w hw=>?_⟩
  ·rw[List.mem_singleton.1 hy];rfl
  ·rw[List.mem_singleton.1 hy];rfl
  ·obtain⟨x,rfl⟩:=Int.eq_ofNat_of_zero_le (Int.le_of_lt h0);obtain⟨hlow,hk⟩:=Lib.lowest_bit 64 x o_ o_;obtain⟨hi,htab⟩:=Lib.deBruijn64_at _ hk;have hcell:=hw.1 _ hi;rw[htab]at hcell;have:=Aae x _ _ w z_ (tz64_key x _ o_ o_ hlow) hi hk hcell;exact this
 ·cases h
def Js:List CK:=Ar
end Go.Proofs.YtnljjjghpgdmoaaGreatDoor.Ld
namespace Go.Proofs.YtnljjjghpgdmoaaGreatDoor.Ld
open Go.Ev
set_option maxRecDepth 100000
def sl(i n:Nat):Value:=.slice (some ⟨i,0,some 0⟩) n 0
def Rb(own:Bool)(r:Row):Option Blk:=some (.row Ar own r)
def wi(n:Int):Int:=IntKind.i64.wrap n
def BO(a b:Int):Int:=IntKind.i64.wrap ((BitVec.ofInt 64 a&&&BitVec.ofInt 64 b).toNat:Int)
def GM(a b:Int):Int:=IntKind.i64.wrap ((BitVec.ofInt 64 a^^^BitVec.ofInt 64 b).toNat:Int)
def bOr(a b:Int):Int:=IntKind.i64.wrap ((BitVec.ofInt 64 a|||BitVec.ofInt 64 b).toNat:Int)
def WQ(a b:Int):Int:=a.fdiv (2^min b.toNat 64)
def ofI(a:Nat)(h:a<18446744073709551616):(BitVec.ofInt 64 (a:Int)).toNat=a:=by
 rw[BitVec.ofInt_natCast,BitVec.toNat_ofNat];exact Nat.mod_eq_of_lt h
def Vu{n:Int}(h1: -9223372036854775808<=n)(h2:n<=9223372036854775807):wi n=n:=wrap64 h1 h2
def Ri(a b:Nat)(ha:a<9223372036854775808)(hb:b<18446744073709551616):BO (a:Int) (b:Int)=((a&&&b:Nat):Int):=by
 unfold BO;have h:a&&&b<=a:=Nat.and_le_left;rw[BitVec.toNat_and,ofI a o_,ofI b hb];exact wrap64 o_ o_
def YV(a b:Nat)(ha:a<9223372036854775808)(hb:b<9223372036854775808):GM (a:Int) (b:Int)=((a^^^b:Nat):Int):=by
 unfold GM;have h:a^^^b<2^63:=Nat.xor_lt_two_pow o_ o_;rw[BitVec.toNat_xor,ofI a o_,ofI b o_];exact wrap64 o_ o_
def Aqq(a b:Nat)(ha:a<9223372036854775808)(hb:b<9223372036854775808):bOr (a:Int) (b:Int)=((a|||b:Nat):Int):=by
 unfold bOr;have h:a|||b<2^63:=Nat.or_lt_two_pow o_ o_;rw[BitVec.toNat_or,ofI a o_,ofI b o_];exact wrap64 o_ o_
def Ap1(a l:Nat)(hl:l<=64):WQ (a:Int) (l:Int)=((a>>>l:Nat):Int):=by
 unfold WQ;rw[A9,Nat.min_eq_left hl,Int.fdiv_eq_ediv_of_nonneg _ (Int.le_of_lt (Int.pow_pos d_)),Nat.shiftRight_eq_div_pow,Int.natCast_ediv,Int.natCast_pow];rfl
def Ye(a l:Nat)(ha:a<9223372036854775808)(hl:l<=64):(BO (WQ (a:Int) (l:Int)) 1==1)=a.testBit l:=by
 have h1:a>>>l<=a:=by rw[Nat.shiftRight_eq_div_pow];exact Nat.div_le_self _ _
 have h2:=Ri (a>>>l) 1 o_ o_;rw[Ap1 a l hl,show((1:Int))=((1:Nat):Int)from rfl,h2,Nat.and_one_is_mod];unfold Nat.testBit;rw[Nat.and_comm,Nat.and_one_is_mod];rcases Nat.mod_two_eq_zero_or_one (a>>>l)with h|h<;>rw[h]<;>rfl
def aW(sm:Row)(s low g:Nat)(ou:Row):Row:=if g.testBit low=true∧g≠s∧sm.I g 0=0 then ou.setI s 0 (if wi (1+ou.I (s^^^g) 0)>ou.I s 0 then wi (1+ou.I (s^^^g) 0)else ou.I s 0)else ou
def Lm(sm:Row)(s low:Nat):Nat->Nat->Row->Row
 |0,_,ou=>ou
 |n+1,g,ou=>if g=0 then ou else Lm sm s low n ((g-1)&&&s) (aW sm s low g ou)
def xN(nb N M:Nat)(s low g:Int)(b sm ou:Row):St:=⟨[sl 0 nb]++us 2++[sl 1 N,sl 2 M,i64 s,i64 low,i64 g]++us 83,[[]],[Rb false b,Rb true sm,Rb true ou]⟩
def Abs(nb N M:Nat)(s:Int)(b sm ou:Row):St:=⟨[sl 0 nb]++us 2++[sl 1 N,sl 2 M,i64 s]++us 85,[[]],[Rb false b,Rb true sm,Rb true ou]⟩
def G11(cd:Nat->Nat->Nat->Int->Int->Int->Bool):List It->(X->St->OD)->OD
 |[.n nb,.n N,.n M,.i s,.i low,.i g,.r b,.r sm,.r ou],k=>br (cd nb N M s low g) (k (.exit 2) (Abs nb N M s b sm (Lm sm s.toNat low.toNat (g.toNat+1) g.toNat ou))) none
 |_,_=>none
def l11(cd:Nat->Nat->Nat->Int->Int->Int->Bool):LoopC where
 f:=88
 id:=11
 lv:=[0,3,4,5,6,7]
 lx:=[0,2,3,4,5]
 p:={τ:=[.v (.sl 0)]++pu 2++[.v (.sl 1),.v (.sl 2),.v (.int .i64),.v (.int .i64),.v (.int .i64)]++pu 83,saved:=[[]],mem:=[.row Js false,.row Js true,.row Js true]}
 G:=G11 cd
def EW(s:Nat):Nat:=Lib.ctz 64 s
def xU(b:Row)(s:Nat)(sm:Row):Row:=sm.setI s 0 (wi (sm.I (s&&&(s-1)) 0+b.I (EW s) 0))
def ouU(b:Row)(s:Nat)(sm ou:Row):Row:=if(xU b s sm).I s 0≠0 then ou.setI s 0 (-1)else Lm (xU b s sm) s (EW s) (s+1) s ((ou.setI s 0 (-1)).setI s 0 1)
def TC(b:Row):Nat->Nat->Row->Row->Row
 |0,_,_,ou=>ou
 |m+1,s,sm,ou=>TC b m (s+1) (xU b s sm) (ouU b s sm ou)
def S3(nb N M:Nat)(s:Int)(b sm ou:Row):St:=⟨[sl 0 nb]++us 2++[sl 1 N,sl 2 M,i64 s]++us 85,[[]],[Rb false b,Rb true sm,Rb true ou]⟩
def S3x(M:Nat)(ou:Row):St:=⟨us 4++[sl 0 M]++us 86,[[]],[Rb true ou]⟩
def G3(cd:Nat->Nat->Nat->Bool):List It->(X->St->OD)->OD
 |[.n nb,.n N,.n M,.r b,.r sm,.r ou],k=>br (cd nb N M) (k (.exit 0) (S3x M (TC b (N-1) 1 sm ou))) none
 |_,_=>none
def l3(cd:Nat->Nat->Nat->Bool):LoopC where
 f:=88
 id:=3
 lv:=[0,3,4,5]
 lx:=[2,4]
 p:={τ:=[.v (.sl 0)]++pu 2++[.v (.sl 1),.v (.sl 2),.v (.c (i64 1))]++pu 85,saved:=[[]],mem:=[.row Js false,.row Js true,.row Js true]}
 G:=G3 cd
noncomputable def C1g(c1:Nat->Nat->Nat->Int->Int->Int->Bool)(c2:Nat->Nat->Nat->Bool):Cx:=AP Tryz.prog fns [(168,Ftz)] [l11 c1,l3 c2]
def Ac4(c1:Nat->Nat->Nat->Int->Int->Int->Bool)(c2:Nat->Nat->Nat->Bool)(R:St->OD)(K:X->St->OD)(p nb N M:Nat)(s low g:Int)(b sm ou:Row):AA (C1g c1 c2) 88 true (inl (C1g c1 c2) (p+4)) (Cm (C1g c1 c2).P 88 11) (xN nb N M s low g b sm ou) (BF [0,3,4,5,6,7] (some [0,2,3,4,5]) R K)=br (g>0) (br (low<0) none (br (BO (WQ g low) 1==1) (br (g !=s) (br (0<=g&&g<(N:Int)) (br (sm.I (0+g.toNat) 0==0) (br (0<=s&&s<(M:Int)) (br (0<=GM s g&&GM s g<(M:Int)) (br (0<=s&&s<(M:Int)) (R (xN nb N M s low (BO (wi (g-1)) s) b sm (ou.setI (0+s.toNat) 0 (if wi (1+ou.I (0+(GM s g).toNat) 0)>ou.I (0+s.toNat) 0 then wi (1+ou.I (0+(GM s g).toNat) 0)else ou.I (0+s.toNat) 0)))) none) none) none) (R (xN nb N M s low (BO (wi (g-1)) s) b sm ou))) none) (R (xN nb N M s low (BO (wi (g-1)) s) b sm ou))) (R (xN nb N M s low (BO (wi (g-1)) s) b sm ou)))) (K (.exit 2) (Abs nb N M s b sm ou)):=k_
def TG(s:Int):Int:=Abd (IntKind.u64.wrap s)
def Als(c1:Nat->Nat->Nat->Int->Int->Int->Bool)(c2:Nat->Nat->Nat->Bool)(R:St->OD)(K:X->St->OD)(p nb N M:Nat)(s:Int)(b sm ou:Row):AA (C1g c1 c2) 88 true (inl (C1g c1 c2) (p+4)) (Cm (C1g c1 c2).P 88 3) (S3 nb N M s b sm ou) (BF [0,3,4,5] (some [2,4]) R K)=br (s<(M:Int)) (br (0<IntKind.u64.wrap s&&IntKind.u64.wrap s<18446744073709551616) (br (0<=BO s (wi (s-1))&&BO s (wi (s-1))<(N:Int)) (br (0<=TG s&&TG s<(nb:Int)) (br (0<=s&&s<(N:Int)) (br (0<=s&&s<(M:Int)) (br (0<=s&&s<(N:Int)) (br ((sm.setI (0+s.toNat) 0 (wi (sm.I (0+(BO s (wi (s-1))).toNat) 0+b.I (0+(TG s).toNat) 0))).I (0+s.toNat) 0 !=0) (R (S3 nb N M (wi (s+1)) b (sm.setI (0+s.toNat) 0 (wi (sm.I (0+(BO s (wi (s-1))).toNat) 0+b.I (0+(TG s).toNat) 0))) (ou.setI (0+s.toNat) 0 (-1)))) (br (0<=s&&s<(M:Int)) (br (c1 nb N M s (TG s) s) (R (S3 nb N M (wi (s+1)) b (sm.setI (0+s.toNat) 0 (wi (sm.I (0+(BO s (wi (s-1))).toNat) 0+b.I (0+(TG s).toNat) 0))) (Lm (sm.setI (0+s.toNat) 0 (wi (sm.I (0+(BO s (wi (s-1))).toNat) 0+b.I (0+(TG s).toNat) 0))) s.toNat (TG s).toNat (s.toNat+1) s.toNat ((ou.setI (0+s.toNat) 0 (-1)).setI (0+s.toNat) 0 1)))) none) none)) none) none) none) none) none) none) (K (.exit 0) (S3x M ou)):=k_
def RU(nb N M:Nat)(s low g:Int):Bool:=0<=s∧s<N∧N=M∧N=2^nb∧nb<=62∧0<=low∧low<=62∧g=s
def in3(nb N M:Nat):Bool:=N=2^nb∧N=M∧nb<=62
noncomputable def C1:Cx:=C1g RU in3
def Anr{f:St->(X->St->OD)->OD}{lv:List Tmp}{lx:Option (List Tmp)}{nb N s low:Nat}{b sm:Row}
  (hr:∀(g:Int)(ou:Row) R K,f (xN nb N N s low g b sm ou) (BF lv lx R K)=
   br (decide (g>0)) (br (decide ((low:Int)<0)) none (br (BO (WQ g low) 1==1) (br (g !=s) (br (decide (0<=g)&&decide (g<(N:Int))) (br (sm.I (0+g.toNat) 0==0) (br (decide (0<=(s:Int))&&decide ((s:Int)<(N:Int))) (br (decide (0<=GM s g)&&decide (GM s g<(N:Int))) (br (decide (0<=(s:Int))&&decide ((s:Int)<(N:Int)))
    (R (xN nb N N s low (BO (wi (g-1)) s) b sm (ou.setI (0+(s:Int).toNat) 0 (if wi (1+ou.I (0+(GM s g).toNat) 0)>ou.I (0+(s:Int).toNat) 0 then wi (1+ou.I (0+(GM s g).toNat) 0)else ou.I (0+(s:Int).toNat) 0)))) none) none) none)
    (R (xN nb N N s low (BO (wi (g-1)) s) b sm ou))) none) (R (xN nb N N s low (BO (wi (g-1)) s) b sm ou))) (R (xN nb N N s low (BO (wi (g-1)) s) b sm ou)))) (K (.exit 2) (Abs nb N N s b sm ou)))
  (hN:N=2^nb) (hb:nb<=62) (hs:s<N) (hl:low<=62) (K:X->St->OD):
  ∀(n fu g:Nat)(ou:Row),g&&&s=g->g<n->n<=fu->rounds lv lx f fu (xN nb N N s low g b sm ou) K=K (.exit 2) (Abs nb N N s b sm (Lm sm s low n g ou))
 |n+1,fu+1,g,ou,h0,h1,h2=>by
  have hgs:g<=s:=by have:g&&&s<=s:=Nat.and_le_right;omega
  have hNN:N<=4611686018427387904:=by
   have:2^nb<=2^62:=Nat.pow_le_pow_right d_ hb;omega
  rw[DF,hr];unfold Lm;by_cases hg:g=0
  ·rw[AM hg,AB (show¬(g:Int)>0 by omega),Ac]
  ·rw[AL hg,A4 (show(g:Int)>0 by omega),Aa,AB (show¬(low:Int)<0 by omega),Ac,Ye g low o_ o_];have hx:s^^^g<N:=by rw[hN];exact Nat.xor_lt_two_pow o_ o_
   have hnext:BO (wi ((g:Int)-1)) (s:Int)=(((g-1)&&&s:Nat):Int):=by
    rw[Vu o_ o_,show(g:Int)-1=((g-1:Nat):Int) by omega];exact Ri _ _ o_ o_
   have hle:(g-1)&&&s<=g-1:=Nat.and_le_left;have hsub:((g-1)&&&s)&&&s=(g-1)&&&s:=by rw[Nat.and_assoc,Nat.and_self]
   have ih:=fun ou'=>Anr hr hN hb hs hl K n fu ((g-1)&&&s) ou' hsub o_ o_;rw[hnext,YV s g o_ o_,A9,A9,A9,AE,AE,AE];unfold aW;cases hbit:g.testBit low
   ·rw[Ac,AL (fun h=>by cases h.1)];exact ih ou
   ·rw[Aa];by_cases hgs':g=s
    ·rw[show((g:Int) !=(s:Int))=false by rw[hgs'];simp,Ac,AL (show¬(true=true∧g≠s∧sm.I g 0=0)from fun h=>h.2.1 hgs')];exact ih ou
    ·rw[show((g:Int) !=(s:Int))=true from bne_iff_ne.mpr o_,Aa,show(decide (0<=(g:Int))&&decide ((g:Int)<(N:Int)))=true by simp only[A2,A3];omega,Aa];by_cases hz:sm.I g 0=0
     ·rw[show(sm.I g 0==0)=true by simpa using hz,Aa,show(decide (0<=(s:Int))&&decide ((s:Int)<(N:Int)))=true by simp only[A2,A3];omega,Aa,
       show(decide (0<=((s^^^g:Nat):Int))&&decide (((s^^^g:Nat):Int)<(N:Int)))=true by simp only[A2,A3];omega,Aa,Aa,AM (show true=true∧g≠s∧sm.I g 0=0 from⟨rfl,hgs',hz⟩)]
      exact ih _
     ·rw[show(sm.I g 0==0)=false by simpa using hz,Ac,AL (show¬(true=true∧g≠s∧sm.I g 0=0)from fun h=>hz h.2.2)];exact ih ou
def Amx:Ah C1 (l11 RU):=⟨k_,fun q its k rr h=>by
 show rounds [0,3,4,5,6,7] (some [0,2,3,4,5]) (AA C1 88 true (inl C1 (q+4)) (Cm C1.P 88 11)) 18446744073709551616 (bst (l11 RU).p its) k=some rr;change G11 RU its k=some rr at h;unfold G11 at h;split at h
 ·rename_i nb N M s low g b sm ou;rcases CY h with⟨h1,h2⟩|⟨_,h2⟩
  ·obtain⟨k1,k2,k3,k4,k5,k6,k7,k8⟩:=AD h1;obtain⟨s,rfl⟩:=Int.eq_ofNat_of_zero_le k1;obtain⟨low,rfl⟩:=Int.eq_ofNat_of_zero_le k6;subst k3;subst k8;rw[<-h2,A9,A9];have hp:2^nb<=2^62:=Nat.pow_le_pow_right d_ k5;exact Anr (fun g ou R K=>Ac4 RU in3 R K q nb N N s low g b sm ou) k4 k5 o_ o_ k (s+1) 18446744073709551616 s ou (Nat.and_self s) o_ o_
  ·cases h2
 ·cases h⟩
def mQ(s nb:Nat)(h0:0<s)(h1:s<2^nb)(h2:nb<=62):EW s<nb:=by
 have hp:2^nb<=2^62:=Nat.pow_le_pow_right d_ h2;obtain⟨hlow,hk⟩:=Lib.lowest_bit 64 s o_ o_;have:s&&&(2^64-s)<=s:=Nat.and_le_left;rw[hlow]at this;unfold EW;exact(Nat.pow_lt_pow_iff_right d_).1 (Nat.lt_of_le_of_lt this h1)
def Aqg(s:Nat)(h:s<9223372036854775808):TG (s:Int)=(EW s:Int):=by
 unfold TG Abd EW;rw[show IntKind.u64.wrap (s:Int)=s from H9 (by simp[Lit.wf,IntKind.min,IntKind.max,IntKind.signed,IntKind.bits];omega),A9]
def go3{f:St->(X->St->OD)->OD}{lv:List Tmp}{lx:Option (List Tmp)}{nb N:Nat}{b:Row}
  (hr:∀(s:Int)(sm ou:Row) R K,f (S3 nb N N s b sm ou) (BF lv lx R K)=
   br (decide (s<(N:Int))) (br (decide (0<IntKind.u64.wrap s)&&decide (IntKind.u64.wrap s<18446744073709551616)) (br (decide (0<=BO s (wi (s-1)))&&decide (BO s (wi (s-1))<(N:Int))) (br (decide (0<=TG s)&&decide (TG s<(nb:Int))) (br (decide (0<=s)&&decide (s<(N:Int))) (br (decide (0<=s)&&decide (s<(N:Int))) (br (decide (0<=s)&&decide (s<(N:Int)))
    (br ((sm.setI (0+s.toNat) 0 (wi (sm.I (0+(BO s (wi (s-1))).toNat) 0+b.I (0+(TG s).toNat) 0))).I (0+s.toNat) 0 !=0)
     (R (S3 nb N N (wi (s+1)) b (sm.setI (0+s.toNat) 0 (wi (sm.I (0+(BO s (wi (s-1))).toNat) 0+b.I (0+(TG s).toNat) 0))) (ou.setI (0+s.toNat) 0 (-1))))
     (br (decide (0<=s)&&decide (s<(N:Int))) (br (RU nb N N s (TG s) s)
      (R (S3 nb N N (wi (s+1)) b (sm.setI (0+s.toNat) 0 (wi (sm.I (0+(BO s (wi (s-1))).toNat) 0+b.I (0+(TG s).toNat) 0))) (Lm (sm.setI (0+s.toNat) 0 (wi (sm.I (0+(BO s (wi (s-1))).toNat) 0+b.I (0+(TG s).toNat) 0))) s.toNat (TG s).toNat (s.toNat+1) s.toNat ((ou.setI (0+s.toNat) 0 (-1)).setI (0+s.toNat) 0 1)))) none) none)) none) none) none) none) none) none) (K (.exit 0) (S3x N ou)))
  (hN:N=2^nb) (hb:nb<=62) (K:X->St->OD):
  ∀(m fu s:Nat)(sm ou:Row),s+m=N->0<s->m<fu->rounds lv lx f fu (S3 nb N N s b sm ou) K=K (.exit 0) (S3x N (TC b m s sm ou))
 |0,fu+1,s,sm,ou,h0,h1,h2=>by
  rw[DF,hr,AB (show¬(s:Int)<(N:Int) by omega),Ac];rfl
 |m+1,fu+1,s,sm,ou,h0,h1,h2=>by
  have hNN:N<=4611686018427387904:=by
   have:2^nb<=2^62:=Nat.pow_le_pow_right d_ hb;omega
  have hctz:=mQ s nb h1 o_ hb;have hw:IntKind.u64.wrap (s:Int)=s:=H9 (by simp[Lit.wf,IntKind.min,IntKind.max,IntKind.signed,IntKind.bits];omega);have hand:BO (s:Int) (wi ((s:Int)-1))=((s&&&(s-1):Nat):Int):=by
   rw[Vu o_ o_,show(s:Int)-1=((s-1:Nat):Int) by omega];exact Ri _ _ o_ o_
  have hle:s&&&(s-1)<=s-1:=Nat.and_le_right;have ih:=go3 hr hN hb K m fu (s+1) (xU b s sm) (ouU b s sm ou) o_ o_ o_;have hin:RU nb N N s (EW s:Int) s=true:=A4 ⟨o_,o_,rfl,hN,hb,o_,o_,rfl⟩;have hs:(decide (0<=(s:Int))&&decide ((s:Int)<(N:Int)))=true:=by simp only[A2,A3];omega
  rw[DF,hr,hw,hand,Aqg s o_,hin,hs,Vu (n:=(s:Int)+1) o_ o_,show(s:Int)+1=((s+1:Nat):Int) by omega,A4 (show(s:Int)<(N:Int) by omega),
   show(decide (0<(s:Int))&&decide ((s:Int)<18446744073709551616))=true by simp only[A2,A3];omega,
   show(decide (0<=((s&&&(s-1):Nat):Int))&&decide (((s&&&(s-1):Nat):Int)<(N:Int)))=true by simp only[A2,A3];omega,
   show(decide (0<=(EW s:Int))&&decide ((EW s:Int)<(nb:Int)))=true by simp only[A2,A3];omega]
  rw[Aa,Aa,Aa,Aa,Aa,Aa,Aa,Aa,Aa,A9,A9,A9,AE,AE,AE];unfold TC;rw[<-ih];unfold ouU;by_cases hz:(xU b s sm).I s 0=0
  ·rw[AL (fun h=>h hz),show((sm.setI s 0 (wi (sm.I (s&&&(s-1)) 0+b.I (EW s) 0))).I s 0 !=0)=false by rw[show(sm.setI s 0 (wi (sm.I (s&&&(s-1)) 0+b.I (EW s) 0))).I s 0=0 from hz];rfl,Ac];rfl
  ·rw[AM hz,show((sm.setI s 0 (wi (sm.I (s&&&(s-1)) 0+b.I (EW s) 0))).I s 0 !=0)=true from bne_iff_ne.mpr hz,Aa];rfl
def Ann:Ah C1 (l3 in3):=⟨k_,fun q its k rr h=>by
 show rounds [0,3,4,5] (some [2,4]) (AA C1 88 true (inl C1 (q+4)) (Cm C1.P 88 3)) 18446744073709551616 (bst (l3 in3).p its) k=some rr;change G3 in3 its k=some rr at h;unfold G3 at h;split at h
 ·rename_i nb N M b sm ou;rcases CY h with⟨h1,h2⟩|⟨_,h2⟩
  ·obtain⟨k1,k2,k3⟩:=AD h1;subst k2;rw[<-h2];have hp:2^nb<=2^62:=Nat.pow_le_pow_right d_ k3;have h0:0<2^nb:=Nat.two_pow_pos nb;exact go3 (fun s sm ou R K=>Als RU in3 R K q nb N N s b sm ou) k1 k3 k (N-1) 18446744073709551616 1 sm ou o_ o_ o_
  ·cases h2
 ·cases h⟩
def Yz:LH C1 Wt:=BA enter mixed (Aw Ak0 AX) (Aw Amx<|Aw Ann AX)
def nSz(b:Row):Nat:=(wi (1*2^min (b.n:Int).toNat 64)).toNat
def Aoq(c1:Nat->Nat->Nat->Int->Int->Int->Bool)(c2:Nat->Nat->Nat->Bool)(b:Row):BH (C1g c1 c2) 6 88 [.slice Js b]=br (0<=wi (1*2^min (b.n:Int).toNat 64)&&wi (1*2^min (b.n:Int).toNat 64)<=wi (1*2^min (b.n:Int).toNat 64)&&wi (1*2^min (b.n:Int).toNat 64)<=100000000000) (br (0<=wi (1*2^min (b.n:Int).toNat 64)&&wi (1*2^min (b.n:Int).toNat 64)<=wi (1*2^min (b.n:Int).toNat 64)&&wi (1*2^min (b.n:Int).toNat 64)<=100000000000) (br (c2 b.n (nSz b) (nSz b)) (some [.slice Js (w_ (TC b (nSz b-1) 1 (Row.zeros (nSz b)) (Row.zeros (nSz b))) 0 (nSz b))]) none) none) none:=k_
def F6(b:Row):Row:=w_ (TC b (2^b.n-1) 1 (Row.zeros (2^b.n)) (Row.zeros (2^b.n))) 0 (2^b.n)
def fO:FD
 |[.slice [.int .i64] b]=>some (b.n<=20,[.slice Js (F6 b)])
 |_=>none
def Ahr{b:Row}(h:b.n<=20):wi (1*2^min (b.n:Int).toNat 64)=((2^b.n:Nat):Int):=by
 have hp:2^b.n<=2^20:=Nat.pow_le_pow_right d_ h;rw[A9,Nat.min_eq_left o_,Int.one_mul,show(2:Int)^b.n=((2^b.n:Nat):Int) by rw[Int.natCast_pow];rfl];generalize 2^b.n=N at hp⊢;exact Vu o_ o_
def xQ:DenW Tryz.prog Wt 88 fO:=CO Yz fun ds rs h=>by
 unfold fO at h;split at h
 ·rename_i b;simp only[A5,A6,A3]at h;obtain⟨h0,rfl⟩:=h;refine(Aoq RU in3 b).trans ?_;have e:=Ahr h0;have hp:2^b.n<=2^20:=Nat.pow_le_pow_right d_ h0;unfold nSz;have hc:∀N:Nat,N<=2^20->(decide (0<=(N:Int))&&decide ((N:Int)<=(N:Int))&&decide ((N:Int)<=100000000000))=true:=fun N hN=>by simp only[A2,A3];omega
  rw[e,A9,hc _ hp,Aa,Aa,
   show in3 b.n (2^b.n) (2^b.n)=true from A4 ⟨rfl,rfl,o_⟩,Aa]
  rfl
 ·cases h
def Vx(b:Row):Nat->Nat->Int->Bool×Int
 |0,_,s=>(false,s)
 |m+1,j,s=>if b.I j 0< -1000000000∨b.I j 0>1000000000 then(true,s)else Vx b m (j+1) (wi (s+b.I j 0))
def S6(n:Nat)(sum j:Int)(b:Row):St:=⟨us 4++[i64 sum]++us 8++[sl 0 n,i64 n,i64 j]++us 15,[[]],[Rb false b]⟩
def S6r(sum:Int):St:=⟨us 2++[i64 8]++us 1++[i64 sum]++us 26,[[]],[]⟩
def S6x(sum:Int):St:=⟨us 4++[i64 sum]++us 26,[[]],[]⟩
def G6(cd:Nat->Int->Bool):List It->(X->St->OD)->OD
 |[.n n,.i n',.r b],k=>br (cd n n') (br (Vx b n 0 0).1 (k .ret (S6r (Vx b n 0 0).2)) (k (.exit 0) (S6x (Vx b n 0 0).2))) none
 |_,_=>none
def l6(cd:Nat->Int->Bool):LoopC where
 f:=87
 id:=6
 lv:=[4,13,14,15]
 lx:=[2,4]
 p:={τ:=pu 4++[.v (.c (i64 0))]++pu 8++[.v (.sl 0),.v (.int .i64),.v (.c (i64 0))]++pu 15,saved:=[[]],mem:=[.row Js false]}
 G:=G6 cd
def S5(n:Nat)(sum j:Int)(b:Row):St:=⟨[sl 0 n]++us 2++[i64 sum,i64 j]++us 30,[[]],[Rb false b]⟩
def S5r(sum:Int):St:=⟨us 2++[i64 8,i64 sum]++us 31,[[]],[]⟩
def S5x(sum:Int):St:=⟨us 3++[i64 sum]++us 31,[[]],[]⟩
def G5(cd:Nat->Int->Bool):List It->(X->St->OD)->OD
 |[.n n,.r b],k=>br (cd n n) (br (Vx b n 0 0).1 (k .ret (S5r (Vx b n 0 0).2)) (k (.exit 0) (S5x (Vx b n 0 0).2))) none
 |_,_=>none
def l5(cd:Nat->Int->Bool):LoopC where
 f:=48
 id:=5
 lv:=[0,3,4]
 lx:=[2,3]
 p:={τ:=[.v (.sl 0)]++pu 2++[.v (.c (i64 0)),.v (.c (i64 0))]++pu 30,saved:=[[]],mem:=[.row Js false]}
 G:=G5 cd
noncomputable def C2g(cd:Nat->Int->Bool):Cx:=AP Tryz.prog fns [] [l6 cd,l5 cd]
def Agw(cd:Nat->Int->Bool)(R:St->OD)(K:X->St->OD)(p n:Nat)(sum j:Int)(b:Row):AA (C2g cd) 87 true (inl (C2g cd) (p+4)) (Cm (C2g cd).P 87 6) (S6 n sum j b) (BF [4,13,14,15] (some [2,4]) R K)=br (j<(n:Int)) (br (0<=j&&j<(n:Int)) (br (b.I (0+j.toNat) 0< -1000000000) (K .ret (S6r sum)) (br (b.I (0+j.toNat) 0>1000000000) (K .ret (S6r sum)) (R (S6 n (wi (sum+b.I (0+j.toNat) 0)) (wi (j+1)) b)))) none) (K (.exit 0) (S6x sum)):=k_
def Ait(cd:Nat->Int->Bool)(R:St->OD)(K:X->St->OD)(p n:Nat)(sum j:Int)(b:Row):AA (C2g cd) 48 true (inl (C2g cd) (p+4)) (Cm (C2g cd).P 48 5) (S5 n sum j b) (BF [0,3,4] (some [2,3]) R K)=br (j<(n:Int)) (br (0<=j&&j<(n:Int)) (br (b.I (0+j.toNat) 0< -1000000000) (K .ret (S5r sum)) (br (0<=j&&j<(n:Int)) (br (b.I (0+j.toNat) 0>1000000000) (K .ret (S5r sum)) (br (0<=j&&j<(n:Int)) (R (S5 n (wi (sum+b.I (0+j.toNat) 0)) (wi (j+1)) b)) none)) none)) none) (K (.exit 0) (S5x sum)):=k_
def LX(n:Nat)(m:Int):Bool:=m=n∧n<=1000
noncomputable def C2:Cx:=C2g LX
def go6{f:St->(X->St->OD)->OD}{lv:List Tmp}{lx:Option (List Tmp)}{S:Int->Int->St}{Sr Sx:Int->St}{n:Nat}{b:Row}(hn:n<=1000)
  (hr:∀(sum:Int)(j:Nat) R K,f (S sum j) (BF lv lx R K)=if j<n then(if b.I j 0< -1000000000∨b.I j 0>1000000000 then K .ret (Sr sum)else R (S (wi (sum+b.I j 0)) (j+1:Nat)))else K (.exit 0) (Sx sum)) (K:X->St->OD):
  ∀(m fu j:Nat)(s:Int),j+m=n->m<fu->rounds lv lx f fu (S s j) K=br (Vx b m j s).1 (K .ret (Sr (Vx b m j s).2)) (K (.exit 0) (Sx (Vx b m j s).2))
 |0,fu+1,j,s,h0,h1=>by
  rw[DF,hr,AL o_];rfl
 |m+1,fu+1,j,s,h0,h1=>by
  rw[DF,hr,AM o_];unfold Vx;by_cases hb:b.I j 0< -1000000000∨b.I j 0>1000000000
  ·rw[AM hb,AM hb];rfl
  ·rw[AL hb,AL hb];exact go6 hn hr K m fu (j+1) _ o_ o_
def Apf:Ah C2 (l6 LX):=⟨k_,fun q its k rr h=>by
 show rounds [4,13,14,15] (some [2,4]) (AA C2 87 true (inl C2 (q+4)) (Cm C2.P 87 6)) 18446744073709551616 (bst (l6 LX).p its) k=some rr;change G6 LX its k=some rr at h;unfold G6 at h;split at h
 ·rename_i n n' b;rcases CY h with⟨h1,h2⟩|⟨_,h2⟩
  ·obtain⟨k1,k2⟩:=AD h1;subst k1;rw[<-h2];exact go6 (S:=fun s j=>S6 n s j b) (Sr:=S6r) (Sx:=S6x) k2 (fun sum j R K=>by
    refine(Agw LX R K q n sum j b).trans ?_;by_cases hj:j<n
    ·rw[AM hj,A4 (show(j:Int)<(n:Int) by omega),Aa,A4 (show(0:Int)<=(j:Int) by omega),show(true&&true)=true from rfl,Aa,A9,AE,Vu (n:=(j:Int)+1) o_ o_];by_cases h1:b.I j 0< -1000000000
     ·rw[A4 h1,Aa,AM (.inl h1)]
     ·rw[AB h1,Ac];by_cases h2:b.I j 0>1000000000
      ·rw[A4 h2,Aa,AM (.inr h2)]
      ·rw[AB h2,Ac,AL o_];rfl
    ·rw[AL hj,AB (show¬(j:Int)<(n:Int) by omega),Ac]) k n 18446744073709551616 0 0 o_ o_
  ·cases h2
 ·cases h⟩
def Anm:Ah C2 (l5 LX):=⟨k_,fun q its k rr h=>by
 show rounds [0,3,4] (some [2,3]) (AA C2 48 true (inl C2 (q+4)) (Cm C2.P 48 5)) 18446744073709551616 (bst (l5 LX).p its) k=some rr;change G5 LX its k=some rr at h;unfold G5 at h;split at h
 ·rename_i n b;rcases CY h with⟨h1,h2⟩|⟨_,h2⟩
  ·obtain⟨_,k2⟩:=AD h1;rw[<-h2];exact go6 (S:=fun s j=>S5 n s j b) (Sr:=S5r) (Sx:=S5x) k2 (fun sum j R K=>by
    refine(Ait LX R K q n sum j b).trans ?_;by_cases hj:j<n
    ·rw[AM hj,A4 (show(j:Int)<(n:Int) by omega),Aa,A4 (show(0:Int)<=(j:Int) by omega),show(true&&true)=true from rfl,Aa,Aa,Aa,A9,AE,Vu (n:=(j:Int)+1) o_ o_];by_cases h1:b.I j 0< -1000000000
     ·rw[A4 h1,Aa,AM (.inl h1)]
     ·rw[AB h1,Ac];by_cases h2:b.I j 0>1000000000
      ·rw[A4 h2,Aa,AM (.inr h2)]
      ·rw[AB h2,Ac,AL o_];rfl
    ·rw[AL hj,AB (show¬(j:Int)<(n:Int) by omega),Ac]) k n 18446744073709551616 0 0 o_ o_
  ·cases h2
 ·cases h⟩
def U0:Be C2:=Aj enter mixed AX (Aw Apf<|Aw Anm AX)
def ckB(b:Row):Bool:=(Vx b b.n 0 0).1
def yL(b:Row):Int:=(Vx b b.n 0 0).2
def ckE(b:Row):Int:=if b.n<1∨10<b.n then 2 else if ckB b=true∨yL b≠0 then 8 else 0
def Fck:FD
 |[.slice [.int .i64] b]=>some (true,[.v (i64 (ckE b))])
 |_=>none
def WO(cd:Nat->Int->Bool)(b:Row):BH (C2g cd) 6 87 [.slice Js b]=br ((b.n:Int)<1) (some [.v (i64 2)]) (br ((b.n:Int)>10) (some [.v (i64 2)]) (br (cd b.n b.n) (br (ckB b) (some [.v (i64 8)]) (br (yL b !=0) (some [.v (i64 8)]) (some [.v (i64 0)]))) none)):=k_
def Ags(cd:Nat->Int->Bool)(b:Row):BH (C2g cd) 6 48 [.slice Js b]=br ((b.n:Int)>=1) (br (!decide ((b.n:Int)<=10)) (some [.v (i64 2)]) (br (cd b.n b.n) (br (ckB b) (some [.v (i64 8)]) (br (yL b !=0) (some [.v (i64 8)]) (some [.v (i64 0)]))) none)) (some [.v (i64 2)]):=k_
def Y3(b:Row)(h:¬(b.n<1∨10<b.n)):br (ckB b) (some [D.v (i64 8)]) (br (yL b !=0) (some [.v (i64 8)]) (some [.v (i64 0)]))=some [.v (i64 (ckE b))]:=by
 unfold ckE;rw[AL h];cases hb:ckB b
 ·by_cases hs:yL b=0
  ·rw[Ac,show(yL b !=0)=false by simpa using hs,Ac,AL (by rintro(h|h);exact absurd h d_;exact h hs)]
  ·rw[Ac,show(yL b !=0)=true by simpa using hs,Aa,AM (.inr hs)]
 ·rw[Aa,AM (.inl rfl)]
def den_ck:Den Tryz.prog 87 Fck:=Af U0 fun ds rs h=>by
 unfold Fck at h;split at h
 ·rename_i b;simp only[A5,A6,true_and]at h;subst h;refine(WO LX b).trans ?_;by_cases h1:(b.n:Int)<1
  ·rw[A4 h1,Aa];unfold ckE;rw[AM o_]
  ·rw[AB h1,Ac];by_cases h2:(b.n:Int)>10
   ·rw[A4 h2,Aa];unfold ckE;rw[AM o_]
   ·rw[AB h2,Ac,show LX b.n b.n=true from A4 ⟨rfl,o_⟩,Aa,Y3 b o_]
 ·cases h
def den_start:Den Tryz.prog 48 Fck:=Af U0 fun ds rs h=>by
 unfold Fck at h;split at h
 ·rename_i b;simp only[A5,A6,true_and]at h;subst h;refine(Ags LX b).trans ?_;by_cases h1:(b.n:Int)>=1
  ·rw[A4 h1,Aa];by_cases h2:(b.n:Int)<=10
   ·rw[A4 h2,show(!true)=false from rfl,Ac,show LX b.n b.n=true from A4 ⟨rfl,o_⟩,Aa,Y3 b o_]
   ·rw[AB h2,show(!false)=true from rfl,Aa];unfold ckE;rw[AM o_]
  ·rw[AB h1,Ac];unfold ckE;rw[AM o_]
 ·cases h
end Go.Proofs.YtnljjjghpgdmoaaGreatDoor.Ld

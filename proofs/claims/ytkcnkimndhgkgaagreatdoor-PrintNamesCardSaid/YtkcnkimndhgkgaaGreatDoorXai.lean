/- Part of a proof of a statement of this seat. No conditions. -/
import Derived.Test.YtkcnkimndhgkgaaGreatDoorXah
import Derived.Test.YtkcnkimndhgkgaaGreatDoorRows
import Derived.Shelf.Spec.TrailingZeros
import Derived.WalkKit
set_option linter.all false
namespace Go.Ev
open Go.RowKit
def nzN{α:Type}(n:Nat)(k:Nat->α):α:=match n with
 |0=>k 0
 |m+1=>k (Nat.succ m)
theorem nzN_eq{α:Type}(n:Nat)(k:Nat->α):nzN n k=k n:=by cases n<;>rfl
def nzI{α:Type}(n:Int)(k:Int->α):α:=match n with
 |.ofNat m=>nzN m fun m=>k (.ofNat m)
 |.negSucc m=>nzN m fun m=>k (.negSucc m)
theorem nzI_eq{α:Type}(n:Int)(k:Int->α):nzI n k=k n:=by
 cases n with
 |ofNat m=>exact nzN_eq m fun m=>k (.ofNat m)
 |negSucc m=>exact nzN_eq m fun m=>k (.negSucc m)
def nzB{α:Type}(b:Bool)(k:Bool->α):α:=match b with
 |true=>k true
 |false=>k false
theorem nzB_eq{α:Type}(b:Bool)(k:Bool->α):nzB b k=k b:=by cases b<;>rfl
def nzU{α:Type}(c:UInt8)(k:UInt8->α):α:=nzN c.toNat fun n=>k (UInt8.ofNat n)
theorem nzU_eq{α:Type}(c:UInt8)(k:UInt8->α):nzU c k=k c:=by
 show nzN c.toNat _=_;rw[nzN_eq,UInt8.ofNat_toNat]
def nzBs{α:Type}:List UInt8->(List UInt8->α)->α
 |[],k=>k []
 |c::l,k=>nzU c fun c=>nzBs l fun l=>k (c::l)
theorem nzBs_eq{α:Type}:∀(l:List UInt8)(k:List UInt8->α),nzBs l k=k l
 |[],_=>rfl
 |c::l,k=>by
  show nzU c _=_;rw[nzU_eq,nzBs_eq l]
def nzS{α:Type}(s:ByteArray)(k:ByteArray->α):α:=match s with
 |⟨⟨l⟩⟩=>nzBs l fun l=>k ⟨⟨l⟩⟩
theorem nzS_eq{α:Type}(s:ByteArray)(k:ByteArray->α):nzS s k=k s:=by
 match s with
 |⟨⟨l⟩⟩=>exact nzBs_eq l fun l=>k ⟨⟨l⟩⟩
def upF{β:Type}(f:Nat->β):Nat->Nat->List β
 |0,_=>[]
 |m+1,i=>f i::upF f m (i+1)
theorem upF_getD{β:Type}(f:Nat->β)(z:β):∀(m i t:Nat),t<m->(upF f m i).getD t z=f (i+t)
 |0,i,t,h=>absurd h (Nat.not_lt_zero t)
 |m+1,i,0,h=>rfl
 |m+1,i,t+1,h=>by
  show(upF f m (i+1)).getD t z=_;rw[upF_getD f z m (i+1) t (by omega),show i+1+t=i+(t+1) by omega]
def nzL{α β:Type}(g:Nat->(β->α)->α):Nat->Nat->(List β->α)->α
 |0,_,k=>k []
 |m+1,i,k=>g i fun x=>nzL g m (i+1) fun l=>k (x::l)
theorem nzL_eq{α β:Type}(g:Nat->(β->α)->α)(f:Nat->β)(hg:∀i k,g i k=k (f i)):∀(m i:Nat)(k:List β->α),nzL g m i k=k (upF f m i)
 |0,_,_=>rfl
 |m+1,i,k=>by
  show g i _=_;rw[hg,nzL_eq g f hg m (i+1)];rfl
def hasI(ks:List CK):Bool:=ks.any fun k=>match k with|.int _=>true|_=>false
def hasB(ks:List CK):Bool:=ks.any fun k=>match k with|.bool=>true|_=>false
def hasS(ks:List CK):Bool:=ks.any fun k=>match k with|.str=>true|_=>false
def hasR(ks:List CK):Bool:=ks.any fun k=>match k with|.slice _=>true|_=>false
def tabR(n w:Nat)(li:List Int)(lb:List Bool)(lr:List Row)(S:Nat->Nat->ByteArray):Row:=.mk n (fun e j=>li.getD (e*w+j) 0) (fun e j=>lb.getD (e*w+j) false) S (fun e j=>lr.getD (e*w+j) .nil)
def fI(ks:List CK)(r:Row)(t:Nat):Int:=match ks[t%ks.length]? with|some (.int _)=>r.I (t/ks.length) (t%ks.length)|_=>0
def fB(ks:List CK)(r:Row)(t:Nat):Bool:=match ks[t%ks.length]? with|some .bool=>r.B (t/ks.length) (t%ks.length)|_=>false
def nzR{α:Type}:Nat->List CK->Row->(Row->α)->α
 |0,_,r,k=>k r
 |d+1,ks,r,k=>nzN r.n fun n=>nzN ks.length fun w=>
  nzL (fun t=>nzI (fI ks r t)) (bif hasI ks then n*w else 0) 0 fun li=>
  nzL (fun t=>nzB (fB ks r t)) (bif hasB ks then n*w else 0) 0 fun lb=>
  nzL (fun t k=>match ks[t%w]? with|some (.slice sub)=>nzR d sub (r.R (t/w) (t%w)) k|_=>k .nil) (bif hasR ks then n*w else 0) 0 fun lr=>
  k (tabR n w li lb lr (match hasS ks with|true=>r.S|false=>fun _ _=>.empty))
theorem any_of{ks:List CK}{p:CK->Bool}{j:Nat}{k:CK}(h:ks[j]? =some k)(hp:p k=true):ks.any p=true:=List.any_eq_true.2 ⟨k,List.mem_of_getElem? h,hp⟩
theorem idx_parts{w e j:Nat}(hj:j<w):(e*w+j)/w=e∧(e*w+j)%w=j:=by
 rw[Nat.mul_comm e w];exact⟨by rw[Nat.mul_add_div (by omega),Nat.div_eq_of_lt hj,Nat.add_zero],by rw[Nat.mul_add_mod];exact Nat.mod_eq_of_lt hj⟩
theorem idx_lt{w e j n:Nat}(hj:j<w)(he:e<n):e*w+j<n*w:=by
 have h:(e+1)*w<=n*w:=AH w he;rw[Nat.add_mul,Nat.one_mul]at h;omega
theorem nzR_spec:∀(d:Nat)(ks:List CK)(r:Row),∃r',RdA ks r r'∧∀(α:Type)(k:Row->α),nzR d ks r k=k r'
 |0,ks,r=>⟨r,RdA.refl r ks,fun _ _=>rfl⟩
 |d+1,ks,r=>by
  obtain⟨G,hG⟩:∃G:Nat->Row,∀t,(∀sub,ks[t%ks.length]? =some (.slice sub)->RdA sub (r.R (t/ks.length) (t%ks.length)) (G t))∧
    ∀(α:Type)(k:Row->α),(match ks[t%ks.length]? with|some (.slice sub)=>nzR d sub (r.R (t/ks.length) (t%ks.length)) k|_=>k .nil)=k (G t):=by
   suffices H:∀t,∃x:Row,(∀sub,ks[t%ks.length]? =some (.slice sub)->RdA sub (r.R (t/ks.length) (t%ks.length)) x)∧
     ∀(α:Type)(k:Row->α),(match ks[t%ks.length]? with|some (.slice sub)=>nzR d sub (r.R (t/ks.length) (t%ks.length)) k|_=>k .nil)=k x from
    ⟨fun t=>Classical.choose (H t),fun t=>Classical.choose_spec (H t)⟩
   intro t;cases hk:ks[t%ks.length]? with
   |none=>exact⟨.nil,fun sub h=>by(cases h),fun _ _=>rfl⟩
   |some k=>
    cases k with
    |slice sub=>
     obtain⟨r',h1,h2⟩:=nzR_spec d sub (r.R (t/ks.length) (t%ks.length));exact⟨r',fun sub' h=>by cases h;exact h1,h2⟩
    |int _=>exact⟨.nil,fun sub h=>by(cases h),fun _ _=>rfl⟩
    |bool=>exact⟨.nil,fun sub h=>by(cases h),fun _ _=>rfl⟩
    |str=>exact⟨.nil,fun sub h=>by(cases h),fun _ _=>rfl⟩
    |other=>exact⟨.nil,fun sub h=>by(cases h),fun _ _=>rfl⟩
  refine⟨tabR r.n ks.length (upF (fI ks r) (bif hasI ks then r.n*ks.length else 0) 0) (upF (fB ks r) (bif hasB ks then r.n*ks.length else 0) 0) (upF G (bif hasR ks then r.n*ks.length else 0) 0) (match hasS ks with|true=>r.S|false=>fun _ _=>.empty),.mk rfl fun e j k he hk=>?_,fun α k=>?_⟩
  ·have hj:j<ks.length:=(A0.1 hk).1;obtain⟨p1,p2⟩:=idx_parts (e:=e) hj;have p3:=idx_lt hj he;cases k with
   |int kk=>
    refine .int ?_;show _=(upF (fI ks r) (bif hasI ks then r.n*ks.length else 0) 0).getD (e*ks.length+j) 0;rw[show hasI ks=true from any_of hk rfl,cond_true,upF_getD _ _ _ _ _ p3];unfold fI;rw[AE,p1,p2,hk]
   |bool=>
    refine .bool ?_;show _=(upF (fB ks r) (bif hasB ks then r.n*ks.length else 0) 0).getD (e*ks.length+j) false;rw[show hasB ks=true from any_of hk rfl,cond_true,upF_getD _ _ _ _ _ p3];unfold fB;rw[AE,p1,p2,hk]
   |str=>
    refine .str ?_;show _=(match hasS ks with|true=>r.S|false=>fun _ _=>.empty) e j
    rw[show hasS ks=true from any_of hk rfl]
   |slice sub=>
    refine .slice ?_;show RdA sub _ ((upF G (bif hasR ks then r.n*ks.length else 0) 0).getD (e*ks.length+j) .nil);rw[show hasR ks=true from any_of hk rfl,cond_true,upF_getD _ _ _ _ _ p3,AE];have:=(hG (e*ks.length+j)).1 sub (by rw[p2];exact hk);rw[p1,p2]at this;exact this
   |other=>exact .other
  ·show nzN r.n _=_;rw[nzN_eq,nzN_eq,nzL_eq _ (fI ks r) (fun i k=>nzI_eq _ _),nzL_eq _ (fB ks r) (fun i k=>nzB_eq _ _),nzL_eq _ G (fun i k=>(hG i).2 α k)]
inductive RdD1:D->D->Prop
 |v{x:Value}:RdD1 (.v x) (.v x)
 |slice{ks:List CK}{r r':Row}:RdA ks r r'->RdD1 (.slice ks r) (.slice ks r')
 |ptr{ks:List CK}{r r':Row}:RdA ks r r'->RdD1 (.ptr ks r) (.ptr ks r')
 |err{b:Bool}:RdD1 (.err b) (.err b)
 |agg{ds:List D}:RdD1 (.agg ds) (.agg ds)
inductive RdDs1:List D->List D->Prop
 |nil:RdDs1 [] []
 |cons{d d':D}{ds ds':List D}:RdD1 d d'->RdDs1 ds ds'->RdDs1 (d::ds) (d'::ds')
inductive RdD:D->D->Prop
 |one{d d':D}:RdD1 d d'->RdD d d'
 |agg{ds ds':List D}:RdDs1 ds ds'->RdD (.agg ds) (.agg ds')
inductive RdDs:List D->List D->Prop
 |nil:RdDs [] []
 |cons{d d':D}{ds ds':List D}:RdD d d'->RdDs ds ds'->RdDs (d::ds) (d'::ds')
def nzD1{α:Type}(m:Nat)(d:D)(k:D->α):α:=match d with
 |.v (.int kd n)=>nzI n fun n=>k (.v (.int kd n))
 |.v (.bool b)=>nzB b fun b=>k (.v (.bool b))
 |.v (.string s)=>nzS s fun s=>k (.v (.string s))
 |.slice ks r=>nzR m ks r fun r=>k (.slice ks r)
 |.ptr ks r=>nzR m ks r fun r=>k (.ptr ks r)
 |d=>k d
def nzDs1{α:Type}(m:Nat):List D->(List D->α)->α
 |[],k=>k []
 |d::ds,k=>nzD1 m d fun d=>nzDs1 m ds fun ds=>k (d::ds)
def nzD{α:Type}(m:Nat)(d:D)(k:D->α):α:=match d with
 |.agg ds=>nzDs1 m ds fun ds=>k (.agg ds)
 |d=>nzD1 m d k
def nzDs{α:Type}(m:Nat):List D->(List D->α)->α
 |[],k=>k []
 |d::ds,k=>nzD m d fun d=>nzDs m ds fun ds=>k (d::ds)
theorem RdD1.refl(d:D):RdD1 d d:=by
 cases d with
 |v x=>exact .v
 |slice ks r=>exact .slice (RdA.refl r ks)
 |agg ds=>exact .agg
 |ptr ks r=>exact .ptr (RdA.refl r ks)
 |err b=>exact .err
theorem nzD1_spec(m:Nat)(d:D):∃d',RdD1 d d'∧∀(α:Type)(k:D->α),nzD1 m d k=k d':=by
 unfold nzD1;split
 ·exact⟨_,.v,fun α k=>nzI_eq _ _⟩
 ·exact⟨_,.v,fun α k=>nzB_eq _ _⟩
 ·exact⟨_,.v,fun α k=>nzS_eq _ _⟩
 ·rename_i ks r;obtain⟨r',h1,h2⟩:=nzR_spec m ks r;exact⟨_,.slice h1,fun α k=>h2 α _⟩
 ·rename_i ks r;obtain⟨r',h1,h2⟩:=nzR_spec m ks r;exact⟨_,.ptr h1,fun α k=>h2 α _⟩
 ·exact⟨_,RdD1.refl _,fun α k=>rfl⟩
theorem nzDs1_spec(m:Nat):∀ds,∃ds',RdDs1 ds ds'∧∀(α:Type)(k:List D->α),nzDs1 m ds k=k ds'
 |[]=>⟨[],.nil,fun _ _=>rfl⟩
 |d::ds=>by
  obtain⟨d',h1,h2⟩:=nzD1_spec m d;obtain⟨ds',h3,h4⟩:=nzDs1_spec m ds;exact⟨d'::ds',.cons h1 h3,fun α k=>by show nzD1 m d _=_;rw[h2,h4]⟩
theorem nzD_spec(m:Nat)(d:D):∃d',RdD d d'∧∀(α:Type)(k:D->α),nzD m d k=k d':=by
 unfold nzD;split
 ·rename_i ds;obtain⟨ds',h1,h2⟩:=nzDs1_spec m ds;exact⟨_,.agg h1,fun α k=>h2 α _⟩
 ·obtain⟨d',h1,h2⟩:=nzD1_spec m d;exact⟨d',.one h1,h2⟩
theorem nzDs_spec(m:Nat):∀ds,∃ds',RdDs ds ds'∧∀(α:Type)(k:List D->α),nzDs m ds k=k ds'
 |[]=>⟨[],.nil,fun _ _=>rfl⟩
 |d::ds=>by
  obtain⟨d',h1,h2⟩:=nzD_spec m d;obtain⟨ds',h3,h4⟩:=nzDs_spec m ds;exact⟨d'::ds',.cons h1 h3,fun α k=>by show nzD m d _=_;rw[h2,h4]⟩
theorem fromD1_rd{m m' m1:List (Option Blk)}{d d':D}{v:Value}(h:fromD1 false m d=some (v,m1))(hd:RdD1 d d')(ha:MemAl m m'):∃m1',fromD1 false m' d'=some (v,m1')∧MemAl m1 m1':=by
 cases hd with
 |@v x=>
  simp only[fromD1]at h⊢;split at h
  ·cases h;rename_i hx;exact⟨m',by rfl,ha⟩
  ·cases h
 |slice hr=>
  simp only[fromD1,A5,A6]at h⊢;obtain⟨rfl,rfl⟩:=h;exact⟨_,⟨by rw[ha.1,hr.hn],rfl⟩,ha.snoc hr⟩
 |ptr hr=>
  simp only[fromD1,A5,A6]at h⊢;obtain⟨rfl,rfl⟩:=h;exact⟨_,⟨by rw[ha.1],rfl⟩,ha.snoc hr⟩
 |err=>
  simp only[fromD1,A5,A6]at h⊢;obtain⟨rfl,rfl⟩:=h;exact⟨_,⟨rfl,rfl⟩,ha⟩
 |agg=>cases h
theorem fromD1s_rd{ds ds':List D}(hd:RdDs1 ds ds'):∀{m m' m1:List (Option Blk)}{vs:List Value},fromD1s false ds m=some (vs,m1)->MemAl m m'->∃m1',fromD1s false ds' m'=some (vs,m1')∧MemAl m1 m1':=by
 induction hd with
 |nil=>intro m m' m1 vs h ha;cases h;exact⟨m',rfl,ha⟩
 |cons h1 _ ih=>
  intro m m' m1 vs h ha;simp only[fromD1s]at h;split at h
  ·rename_i x m2 h2;split at h
   ·rename_i xs m3 h3;cases h;obtain⟨n2,k1,k2⟩:=fromD1_rd h2 h1 ha;obtain⟨n3,k3,k4⟩:=ih h3 k2;exact⟨n3,by simp[fromD1s,k1,k3],k4⟩
   ·cases h
  ·cases h
theorem fromD_one{own:Bool}{m m1:List (Option Blk)}{d d':D}{v:Value}(h:fromD own m d=some (v,m1))(hd:RdD1 d d'):(∃ds,d=.agg ds∧d'=.agg ds)∨(fromD1 own m d=some (v,m1)∧∀m',fromD own m' d'=fromD1 own m' d'):=by
 cases hd with
 |agg=>exact .inl ⟨_,rfl,rfl⟩
 |v=>exact .inr ⟨h,fun _=>rfl⟩
 |slice _=>exact .inr ⟨h,fun _=>rfl⟩
 |ptr _=>exact .inr ⟨h,fun _=>rfl⟩
 |err=>exact .inr ⟨h,fun _=>rfl⟩
theorem RdDs1.refl:∀ds,RdDs1 ds ds
 |[]=>.nil
 |d::ds=>.cons (RdD1.refl d) (RdDs1.refl ds)
theorem fromD_rd{m m' m1:List (Option Blk)}{d d':D}{v:Value}(h:fromD false m d=some (v,m1))(hd:RdD d d')(ha:MemAl m m'):∃m1',fromD false m' d'=some (v,m1')∧MemAl m1 m1':=by
 have key:∀{ds ds':List D},RdDs1 ds ds'->fromD false m (.agg ds)=some (v,m1)->∃m1',fromD false m' (.agg ds')=some (v,m1')∧MemAl m1 m1':=fun{ds ds'} hd h=>by
  simp only[fromD]at h⊢;split at h
  ·rename_i xs m2 h2;cases h;obtain⟨n2,k1,k2⟩:=fromD1s_rd hd h2 ha;exact⟨n2,by simp[k1],k2⟩
  ·cases h
 cases hd with
 |one h1=>
  rcases fromD_one h h1 with⟨ds,rfl,rfl⟩|⟨h2,h3⟩
  ·exact key (RdDs1.refl ds) h
  ·obtain⟨n2,k1,k2⟩:=fromD1_rd h2 h1 ha;exact⟨n2,(h3 m').trans k1,k2⟩
 |agg h1=>exact key h1 h
theorem fromDs_rd{ds ds':List D}(hd:RdDs ds ds'):∀{m m' m1:List (Option Blk)}{vs:List Value},fromDs false ds m=some (vs,m1)->MemAl m m'->∃m1',fromDs false ds' m'=some (vs,m1')∧MemAl m1 m1':=by
 induction hd with
 |nil=>intro m m' m1 vs h ha;cases h;exact⟨m',rfl,ha⟩
 |cons h1 _ ih=>
  intro m m' m1 vs h ha;simp only[fromDs]at h;split at h
  ·rename_i x m2 h2;split at h
   ·rename_i xs m3 h3;cases h;obtain⟨n2,k1,k2⟩:=fromD_rd h2 h1 ha;obtain⟨n3,k3,k4⟩:=ih h3 k2;exact⟨n3,by simp[fromDs,k1,k3],k4⟩
   ·cases h
  ·cases h
theorem DenW.ins{P:Program}{W:World->Prop}{f:FuncId}{F F':FD}(h:DenW P W f F)(hF:∀ds rs,F' ds=some (true,rs)->∃ds',RdDs ds ds'∧F ds'=some (true,rs)):DenW P W f F':=fun wb hw ds rs hF' w hb args vs mem ρ hfr hm hl hv=>by
 obtain⟨ds',hd,hF2⟩:=hF ds rs hF';obtain⟨m1',k1,k2⟩:=fromDs_rd hd hfr MemAl.nil;exact h wb hw ds' rs hF2 w hb args vs m1' ρ k1 (k2.memR hm) hl (fun i x c hx hc=>by rw[<-k2.1];exact hv i x c hx hc)
def MemAo(m m':List (Option Blk)):Prop:=m.length=m'.length∧∀id,id<m.length->∃ks r r',m[id]? =some (some (outB ks r))∧m'[id]? =some (some (outB ks r'))∧RdA ks r r'
theorem MemAo.nil:MemAo [] []:=⟨rfl,fun id h=>absurd h (Nat.not_lt_zero _)⟩
theorem MemAo.snoc{m m':List (Option Blk)}(h:MemAo m m'){ks:List CK}{r r':Row}(ha:RdA ks r r'):MemAo (m++[some (outB ks r)]) (m'++[some (outB ks r')]):=by
 refine⟨by simp[h.1],fun id hid=>?_⟩;rw[AG]at hid;rcases Nat.lt_or_ge id m.length with h1|h1
 ·obtain⟨ks1,r1,r1',a1,a2,a3⟩:=h.2 id h1;exact⟨ks1,r1,r1',by rw[AQ h1];exact a1,by rw[AQ (by rw[<-h.1];exact h1)];exact a2,a3⟩
 ·have hid2:id=m.length:=by simp at hid;omega
  subst hid2;exact⟨ks,r,r',by simp,by simp[h.1],ha⟩
theorem outB_own(ks:List CK)(r:Row):(outB ks r).own=true:=by
 unfold outB;cases flat ks<;>rfl
theorem fromD1_ro{m m' m1:List (Option Blk)}{d d':D}{v:Value}(h:fromD1 true m d=some (v,m1))(hd:RdD1 d d')(ha:MemAo m m'):∃m1',fromD1 true m' d'=some (v,m1')∧MemAo m1 m1':=by
 cases hd with
 |@v x=>
  simp only[fromD1]at h⊢;split at h
  ·cases h;rename_i hx;exact⟨m',by rfl,ha⟩
  ·cases h
 |slice hr=>
  simp only[fromD1,A5,A6]at h⊢;obtain⟨rfl,rfl⟩:=h;exact⟨_,⟨by rw[ha.1,hr.hn],rfl⟩,ha.snoc hr⟩
 |ptr hr=>cases h
 |err=>
  simp only[fromD1,A5,A6]at h⊢;obtain⟨rfl,rfl⟩:=h;exact⟨_,⟨rfl,rfl⟩,ha⟩
 |agg=>cases h
theorem fromD1s_ro{ds ds':List D}(hd:RdDs1 ds ds'):∀{m m' m1:List (Option Blk)}{vs:List Value},fromD1s true ds m=some (vs,m1)->MemAo m m'->∃m1',fromD1s true ds' m'=some (vs,m1')∧MemAo m1 m1':=by
 induction hd with
 |nil=>intro m m' m1 vs h ha;cases h;exact⟨m',rfl,ha⟩
 |cons h1 _ ih=>
  intro m m' m1 vs h ha;simp only[fromD1s]at h;split at h
  ·rename_i x m2 h2;split at h
   ·rename_i xs m3 h3;cases h;obtain⟨n2,k1,k2⟩:=fromD1_ro h2 h1 ha;obtain⟨n3,k3,k4⟩:=ih h3 k2;exact⟨n3,by simp[fromD1s,k1,k3],k4⟩
   ·cases h
  ·cases h
theorem fromD_ro{m m' m1:List (Option Blk)}{d d':D}{v:Value}(h:fromD true m d=some (v,m1))(hd:RdD d d')(ha:MemAo m m'):∃m1',fromD true m' d'=some (v,m1')∧MemAo m1 m1':=by
 have key:∀{ds ds':List D},RdDs1 ds ds'->fromD true m (.agg ds)=some (v,m1)->∃m1',fromD true m' (.agg ds')=some (v,m1')∧MemAo m1 m1':=fun{ds ds'} hd h=>by
  simp only[fromD]at h⊢;split at h
  ·rename_i xs m2 h2;cases h;obtain⟨n2,k1,k2⟩:=fromD1s_ro hd h2 ha;exact⟨n2,by simp[k1],k2⟩
  ·cases h
 cases hd with
 |one h1=>
  rcases fromD_one h h1 with⟨ds,rfl,rfl⟩|⟨h2,h3⟩
  ·exact key (RdDs1.refl ds) h
  ·obtain⟨n2,k1,k2⟩:=fromD1_ro h2 h1 ha;exact⟨n2,(h3 m').trans k1,k2⟩
 |agg h1=>exact key h1 h
theorem fromDs_ro{ds ds':List D}(hd:RdDs ds ds'):∀{m m' m1:List (Option Blk)}{vs:List Value},fromDs true ds m=some (vs,m1)->MemAo m m'->∃m1',fromDs true ds' m'=some (vs,m1')∧MemAo m1 m1':=by
 induction hd with
 |nil=>intro m m' m1 vs h ha;cases h;exact⟨m',rfl,ha⟩
 |cons h1 _ ih=>
  intro m m' m1 vs h ha;simp only[fromDs]at h;split at h
  ·rename_i x m2 h2;split at h
   ·rename_i xs m3 h3;cases h;obtain⟨n2,k1,k2⟩:=fromD_ro h2 h1 ha;obtain⟨n3,k3,k4⟩:=ih h3 k2;exact⟨n3,by simp[fromDs,k1,k3],k4⟩
   ·cases h
  ·cases h
theorem CellR.alike{ok:Nat->Prop}{w:World}{k:CK}{r r':Row}{e j:Nat}{v:Value}(h:CellR ok w k r e j v)(ha:RdAC k r r' e j):CellR ok w k r' e j v:=by
 cases h with
 |int=>cases ha with|int h=>rw[h];exact .int
 |bool=>cases ha with|bool h=>rw[h];exact .bool
 |str=>cases ha with|str h=>rw[h];exact .str
 |slice0 h0=>cases ha with|slice h=>exact .slice0 (h.hn.symm.trans h0)
 |slice h1 h2 h3 h4=>cases ha with|slice h=>exact .slice (h.hn.symm.trans h1) h2 h3 (h4.alike h)
theorem DCell.alike{B:Nat}{w:World}{k:CK}{r r':Row}{e j:Nat}{hole:Bool}{ob:Option Nat}{v:Value}(h:DCell B w k r e j hole ob v)(ha:RdAC k r r' e j):DCell B w k r' e j hole ob v:=by
 cases k with
 |slice sub=>
  obtain⟨h1,h2,h3⟩:=h;cases ha with
  |slice hr=>
   refine⟨h1,h2,fun hh=>?_⟩;obtain⟨a,cap,e1,e2,e3⟩:=h3 hh;refine⟨a,cap,by rw[<-hr.hn];exact e1,by rw[<-hr.hn];exact e2,?_⟩;rcases e3 with e3|⟨b,off,c,T,g1,g2,g3,g4,g5,g6⟩
   ·exact .inl e3
   ·exact .inr ⟨b,off,c,T,g1,g2,g3,g4,g5,g6.alike hr⟩
 |int kk=>exact CellR.alike h ha
 |bool=>exact CellR.alike h ha
 |str=>exact CellR.alike h ha
 |other=>exact CellR.alike h ha
theorem MemAo.memR{m m':List (Option Blk)}{ρ:Map}{B:Nat}{w:World}(ha:MemAo m m')(h:MemR m ρ B w):MemR m' ρ B w:=by
 have back:∀id b,Owned m' ρ id b->Owned m ρ id b:=fun id b ⟨L,blk,h1,h2,h3,h4⟩=>by
  obtain⟨ks,r,r',a1,a2,a3⟩:=ha.2 id (by rw[ha.1];exact(A0.1 h2).1);exact⟨L,_,h1,a1,outB_own ks r,h4⟩
 refine⟨fun id b hb=>?_,fun id hid=>h.dead id fun b hb=>?_,fun i j b hi hj=>h.inj i j b (back i b hi) (back j b hj)⟩
 ·obtain⟨ks,r,r',a1,a2,a3⟩:=ha.2 id (by rw[ha.1];exact(A0.1 hb).1);rw[a2]at hb;cases hb;obtain⟨L,hL,hR⟩:=h.blk id _ a1;refine⟨L,hL,?_⟩;have hn:=a3.hn;unfold outB at hR⊢;cases hf:flat ks with
  |true=>
   rw[hf]at hR;obtain⟨q1,q2,q3,q4,q5⟩:=hR;refine⟨q1.trans hn,q2,fun ho=>?_,fun h0=>?_,q5⟩
   ·rw[<-hn];exact q3 ho
   ·obtain⟨p1,p2⟩:=q4 (by rw[hn];exact h0);exact⟨fun hf=>(by cases hf),(p2.mono (ok':=okB m' ρ w) (fun b hb=>⟨⟨hb.1,fun id ho=>hb.2 id (back id b ho)⟩,rfl⟩) rfl).alike a3⟩
  |false=>
   rw[hf]at hR;obtain⟨q1,q2,q3,q4,q5,q6,q7,q8⟩:=hR;have hc:∀e j k,e<r.n->ks[j]? =some k->RdAC k r r' e j:=by cases a3 with|mk _ h=>exact h
   exact⟨q1.trans hn,q2,q3,by rw[<-hn];exact q4,q5,fun e j k he hk=>by
    obtain⟨v,g1,g2⟩:=q6 e j k (by rw[hn];exact he) hk;exact⟨v,g1,g2.alike (hc e j k (by rw[hn];exact he) hk)⟩,fun e j b hb=>by
    obtain⟨g1,g2⟩:=q7 e j b hb;exact⟨by rw[<-hn];exact g1,g2⟩,q8⟩
 ·obtain⟨ks,r,r',a1,a2,a3⟩:=ha.2 id (A0.1 hb).1;exact hid _ a2
theorem DenW.outs{P:Program}{W:World->Prop}{f:FuncId}{F F':FD}(h:DenW P W f F)(hF:∀ds rs',F' ds=some (true,rs')->∃rs,F ds=some (true,rs)∧RdDs rs rs'):DenW P W f F':=fun wb hw ds rs' hF' w hb args vs mem ρ hfr hm hl hv=>by
 obtain⟨rs,hF2,hd⟩:=hF ds rs' hF';refine(h wb hw ds rs hF2 w hb args vs mem ρ hfr hm hl hv).mono fun e w' ⟨cv,he,hb',us,mem',ρ',h1,h2,h3⟩=>?_;obtain⟨m1',k1,k2⟩:=fromDs_ro hd h1 MemAo.nil;exact⟨cv,he,hb',us,m1',ρ',k1,k2.memR h2,by rw[<-k2.1];exact h3⟩
def nzF(m:Nat)(F:FD)(ds:List D):Option (Bool×List D):=nzDs m ds fun ds=>match F ds with
 |some (b,rs)=>nzDs m rs fun rs=>some (b,rs)
 |none=>none
theorem nzF_den{P:Program}{W:World->Prop}{f:FuncId}{F:FD}(m:Nat)(h:DenW P W f F):DenW P W f (nzF m F):=by
 have h1:DenW P W f (fun ds=>match F ds with|some (b,rs)=>nzDs m rs fun rs=>some (b,rs)|none=>none):=h.outs fun ds rs' hF=>by
  cases hf:F ds with
  |none=>simp only[hf]at hF;cases hF
  |some p=>
   obtain⟨b,rs⟩:=p;simp only[hf]at hF;obtain⟨rs2,h1,h2⟩:=nzDs_spec m rs;rw[h2]at hF;simp only[A5,A6]at hF;obtain⟨rfl,rfl⟩:=hF;exact⟨rs,rfl,h1⟩
 refine h1.ins fun ds rs hF=>?_;obtain⟨ds',h2,h3⟩:=nzDs_spec m ds;refine⟨ds',h2,?_⟩;unfold nzF at hF;rw[h3]at hF;exact hF
noncomputable def cbv(C:Cx)(d:Nat)(f:FuncId):FD:=nzF 6 fun ds=>match evF C d f ds with
 |some rs=>some (true,rs)
 |none=>none
theorem cbv_den{C:Cx}{W:World->Prop}(hC:CxW C W)(d:Nat)(f:FuncId):DenW C.P W f (cbv C d f):=nzF_den 6 (evF_denW hC (d:=d) fun ds rs h=>by
 split at h
 ·cases h;assumption
 ·cases h)
end Go.Ev
namespace Go.Ev
abbrev S_(b o n:Nat):Value:=.slice (some ⟨b,o,some 0⟩) n 0
theorem ciff{A:Type}{c:A->Bool}{P:A->Prop}{i:∀x,Decidable (P x)}(h:c=fun x=>@decide (P x) (i x)){x:A}:c x=true↔P x:=by rw[h];exact decide_eq_true_iff
structure ScanL(ι:Type) where
 f:FuncId
 id:Nat
 lv:List Tmp
 lx:List Tmp
 p:PSt
 dat:List It->Option ι
 S:ι->Nat->List It
 len:ι->Nat
 cnd:ι->Bool
 bad:ι->Nat->Bool
 Kb:ι->Nat->(X->St->OD)->OD
 Ke:ι->(X->St->OD)->OD
def fstF(p:Nat->Bool):Nat->Nat->Nat
 |0,j=>j
 |m+1,j=>bif p j then j else fstF p m (j+1)
theorem fstF_any(p:Nat->Bool):∀m j,anyF p m j=true->fstF p m j<j+m∧p (fstF p m j)=true∧∀i,j<=i->i<fstF p m j->p i=false
 |0,j,h=>by cases h
 |m+1,j,h=>by
  unfold fstF;cases hp:p j
  ·simp only[anyF,hp,Bool.false_or]at h;obtain⟨h1,h2,h3⟩:=fstF_any p m (j+1) h;refine⟨by simp only[cond_false];omega,h2,fun i hi hlt=>?_⟩;by_cases e:i=j
   ·rw[e];exact hp
   ·exact h3 i (by omega) hlt
  ·exact⟨by simp only[cond_true];omega,hp,fun i hi hlt=>by simp only[cond_true]at hlt;omega⟩
def ScanL.G{ι:Type}(s:ScanL ι)(its:List It)(k:X->St->OD):OD:=match s.dat its with
 |some x=>br (s.cnd x) (br (anyF (s.bad x) (s.len x) 0) (s.Kb x (fstF (s.bad x) (s.len x) 0) k) (s.Ke x k)) none
 |none=>none
def ScanL.C{ι:Type}(s:ScanL ι):LoopC:=⟨s.f,s.id,s.lv,s.lx,s.p,s.G⟩
noncomputable abbrev bodyOf(C:Cx)(f:FuncId)(id q:Nat):St->(X->St->OD)->OD:=evCode C f true (inl C (q+4)) (lbody C.P f id)
theorem scan_go{f:St->(X->St->OD)->OD}{lv:List Tmp}{lx:Option (List Tmp)}{S:Nat->St}{len:Nat}{bad:Nat->Bool}{Kb:Nat->(X->St->OD)->OD}{Ke:(X->St->OD)->OD}
  (hr:∀j,j<len->∀R K,f (S j) (rnd lv lx R K)=br (bad j) (Kb j K) (R (S (j+1)))) (he:∀R K,f (S len) (rnd lv lx R K)=Ke K) (K:X->St->OD):
  ∀(m j:Nat),j+m=len->∀N,m<N->rounds lv lx f N (S j) K=br (anyF bad m j) (Kb (fstF bad m j) K) (Ke K)
 |0,j,hj,N,hN=>by
  obtain⟨N,rfl⟩:∃N',N=N'+1:=⟨N-1,by omega⟩;have:j=len:=by omega
  subst this;simp only[rounds,anyF];exact he _ K
 |m+1,j,hj,N,hN=>by
  obtain⟨N,rfl⟩:∃N',N=N'+1:=⟨N-1,by omega⟩;simp only[rounds,anyF,fstF];rw[hr j (by omega),scan_go hr he K m (j+1) (by omega) N (by omega)];cases bad j<;>rfl
theorem ScanL.ok{ι:Type}{C:Cx}(s:ScanL ι)(h1:Nat.beq ((loopsOf C.P s.f).filter fun b=>Nat.beq (firstRegion b) s.id).length 1=true)
  (hS:∀its x,s.dat its=some x->s.cnd x=true->bst s.p its=bst s.p (s.S x 0))
  (hlen:∀x,s.cnd x=true->s.len x<C.N)
  (hr:∀q x j,s.cnd x=true->j<s.len x->∀R K,bodyOf C s.f s.id q (bst s.p (s.S x j)) (rnd s.lv (some s.lx) R K)=br (s.bad x j) (s.Kb x j K) (R (bst s.p (s.S x (j+1)))))
  (he:∀q x,s.cnd x=true->∀R K,bodyOf C s.f s.id q (bst s.p (s.S x (s.len x))) (rnd s.lv (some s.lx) R K)=s.Ke x K):LoopOk C s.C:=⟨h1,fun q its k rr h=>by
 change s.G its k=some rr at h;unfold ScanL.G at h;split at h
 ·rename_i x hx;rcases br_some h with⟨hc,h2⟩|⟨_,h2⟩
  ·rw[<-h2];show rounds s.lv (some s.lx) (bodyOf C s.f s.id q) C.N (bst s.p its) k=_;rw[hS its x hx hc];exact scan_go (S:=fun j=>bst s.p (s.S x j)) (hr q x · hc) (he q x hc) k (s.len x) 0 (by omega) C.N (hlen x hc)
  ·cases h2
 ·cases h⟩
structure RunL(ι β:Type) where
 f:FuncId
 id:Nat
 lv:List Tmp
 lx:List Tmp
 p:PSt
 dat:List It->Option ι
 S:ι->Nat->β->List It
 len:ι->Nat
 cnd:ι->Bool
 ini:ι->β
 stop:ι->Nat->β->Bool
 nx:ι->Nat->β->β
 Kb:ι->Nat->β->(X->St->OD)->OD
 Ke:ι->β->(X->St->OD)->OD
def runS{β:Type}(stop:Nat->β->Bool)(nx:Nat->β->β):Nat->Nat->β->Bool×Nat×β
 |0,j,a=>(false,j,a)
 |m+1,j,a=>bif stop j a then(true,j,a)else runS stop nx m (j+1) (nx j a)
theorem runS_s{β:Type}{stop:Nat->β->Bool}{nx:Nat->β->β}{m j:Nat}{a:β}(h:stop j a=false):runS stop nx (m+1) j a=runS stop nx m (j+1) (nx j a):=by
 show(bif stop j a then _ else _)=_;rw[h];rfl
theorem runS_t{β:Type}{stop:Nat->β->Bool}{nx:Nat->β->β}{m j:Nat}{a:β}(h:stop j a=true):runS stop nx (m+1) j a=(true,j,a):=by
 show(bif stop j a then _ else _)=_;rw[h];rfl
def RunL.G{ι β:Type}(s:RunL ι β)(its:List It)(k:X->St->OD):OD:=match s.dat its with
 |some x=>br (s.cnd x) (br (runS (s.stop x) (s.nx x) (s.len x) 0 (s.ini x)).1 (s.Kb x (runS (s.stop x) (s.nx x) (s.len x) 0 (s.ini x)).2.1 (runS (s.stop x) (s.nx x) (s.len x) 0 (s.ini x)).2.2 k) (s.Ke x (runS (s.stop x) (s.nx x) (s.len x) 0 (s.ini x)).2.2 k)) none
 |none=>none
def RunL.C{ι β:Type}(s:RunL ι β):LoopC:=⟨s.f,s.id,s.lv,s.lx,s.p,s.G⟩
theorem run_go{β:Type}{f:St->(X->St->OD)->OD}{lv:List Tmp}{lx:Option (List Tmp)}{S:Nat->β->St}{len:Nat}{stop:Nat->β->Bool}{nx:Nat->β->β}{Kb:Nat->β->(X->St->OD)->OD}{Ke:β->(X->St->OD)->OD}{Inv:Nat->β->Prop}
  (hI:∀j a,j<len->Inv j a->stop j a=false->Inv (j+1) (nx j a))
  (hr:∀j a,j<len->Inv j a->∀R K,f (S j a) (rnd lv lx R K)=br (stop j a) (Kb j a K) (R (S (j+1) (nx j a)))) (he:∀a,Inv len a->∀R K,f (S len a) (rnd lv lx R K)=Ke a K) (K:X->St->OD):
  ∀(m j:Nat)(a:β),j+m=len->Inv j a->∀N,m<N->rounds lv lx f N (S j a) K=br (runS stop nx m j a).1 (Kb (runS stop nx m j a).2.1 (runS stop nx m j a).2.2 K) (Ke (runS stop nx m j a).2.2 K)
 |0,j,a,hj,h,N,hN=>by
  obtain⟨N,rfl⟩:∃N',N=N'+1:=⟨N-1,by omega⟩;have:j=len:=by omega
  subst this;simp only[rounds,runS];exact he a h _ K
 |m+1,j,a,hj,h,N,hN=>by
  obtain⟨N,rfl⟩:∃N',N=N'+1:=⟨N-1,by omega⟩;rw[rnds1,hr j a (by omega) h];cases hs:stop j a
  ·rw[runS_s hs,br_false];exact run_go hI hr he K m (j+1) (nx j a) (by omega) (hI j a (by omega) h hs) N (by omega)
  ·rw[runS_t hs];rfl
theorem RunL.ok{ι β:Type}{C:Cx}(s:RunL ι β)(Inv:ι->Nat->β->Prop)(h1:Nat.beq ((loopsOf C.P s.f).filter fun b=>Nat.beq (firstRegion b) s.id).length 1=true)
  (hS:∀its x,s.dat its=some x->s.cnd x=true->bst s.p its=bst s.p (s.S x 0 (s.ini x)))
  (hlen:∀x,s.cnd x=true->s.len x<C.N) (hI0:∀x,s.cnd x=true->Inv x 0 (s.ini x))
  (hI:∀x j a,s.cnd x=true->j<s.len x->Inv x j a->s.stop x j a=false->Inv x (j+1) (s.nx x j a))
  (hr:∀q x j a,s.cnd x=true->j<s.len x->Inv x j a->∀R K,bodyOf C s.f s.id q (bst s.p (s.S x j a)) (rnd s.lv (some s.lx) R K)=br (s.stop x j a) (s.Kb x j a K) (R (bst s.p (s.S x (j+1) (s.nx x j a)))))
  (he:∀q x a,s.cnd x=true->Inv x (s.len x) a->∀R K,bodyOf C s.f s.id q (bst s.p (s.S x (s.len x) a)) (rnd s.lv (some s.lx) R K)=s.Ke x a K):LoopOk C s.C:=⟨h1,fun q its k rr h=>by
 change s.G its k=some rr at h;unfold RunL.G at h;split at h
 ·rename_i x hx;rcases br_some h with⟨hc,h2⟩|⟨_,h2⟩
  ·rw[<-h2];show rounds s.lv (some s.lx) (bodyOf C s.f s.id q) C.N (bst s.p its) k=_;rw[hS its x hx hc];exact run_go (S:=fun j a=>bst s.p (s.S x j a)) (Inv:=Inv x) (hI x · · hc) (fun j a hj hi R K=>hr q x j a hc hj hi R K) (fun a hi R K=>he q x a hc hi R K) k (s.len x) 0 (s.ini x) (by omega) (hI0 x hc) C.N (hlen x hc)
  ·cases h2
 ·cases h⟩
theorem gd(j n:Nat)(h:j<n):(decide (0<=(j:Int))&&decide ((j:Int)<(n:Int)))=true:=by simp only[A2,A3];omega
theorem ltd(j n:Nat)(h:j<n):decide ((j:Int)<(n:Int))=true:=A4 (by omega)
theorem ltn(n:Nat):decide ((n:Int)<(n:Int))=false:=AB (by omega)
theorem wsn{j:Nat}(h:j<1000001):IntKind.i64.wrap ((j:Int)+1)=((j+1:Nat):Int):=by
 rw[wrap64 (by omega) (by omega)];omega
structure FoldL(ι β:Type) where
 f:FuncId
 id:Nat
 lv:List Tmp
 lx:List Tmp
 p:PSt
 dat:List It->Option ι
 S:ι->Nat->β->List It
 len:ι->Nat
 cnd:ι->Bool
 ini:ι->β
 nx:ι->Nat->β->β
 Ke:ι->β->(X->St->OD)->OD
def fldN{β:Type}(nx:Nat->β->β):Nat->Nat->β->β
 |0,_,a=>a
 |m+1,j,a=>fldN nx m (j+1) (nx j a)
def FoldL.G{ι β:Type}(s:FoldL ι β)(its:List It)(k:X->St->OD):OD:=match s.dat its with
 |some x=>br (s.cnd x) (s.Ke x (fldN (s.nx x) (s.len x) 0 (s.ini x)) k) none
 |none=>none
def FoldL.C{ι β:Type}(s:FoldL ι β):LoopC:=⟨s.f,s.id,s.lv,s.lx,s.p,s.G⟩
theorem fold_go{β:Type}{f:St->(X->St->OD)->OD}{lv:List Tmp}{lx:Option (List Tmp)}{S:Nat->β->St}{len:Nat}{nx:Nat->β->β}{Ke:β->(X->St->OD)->OD}{Inv:Nat->β->Prop}
  (hI:∀j a,j<len->Inv j a->Inv (j+1) (nx j a))
  (hr:∀j a,j<len->Inv j a->∀R K,f (S j a) (rnd lv lx R K)=R (S (j+1) (nx j a))) (he:∀a,Inv len a->∀R K,f (S len a) (rnd lv lx R K)=Ke a K) (K:X->St->OD):
  ∀(m j:Nat)(a:β),j+m=len->Inv j a->∀N,m<N->rounds lv lx f N (S j a) K=Ke (fldN nx m j a) K
 |0,j,a,hj,h,N,hN=>by
  obtain⟨N,rfl⟩:∃N',N=N'+1:=⟨N-1,by omega⟩;have:j=len:=by omega
  subst this;simp only[rounds,fldN];exact he a h _ K
 |m+1,j,a,hj,h,N,hN=>by
  obtain⟨N,rfl⟩:∃N',N=N'+1:=⟨N-1,by omega⟩;rw[rnds1,hr j a (by omega) h];exact fold_go hI hr he K m (j+1) (nx j a) (by omega) (hI j a (by omega) h) N (by omega)
theorem FoldL.ok{ι β:Type}{C:Cx}(s:FoldL ι β)(Inv:ι->Nat->β->Prop)(h1:Nat.beq ((loopsOf C.P s.f).filter fun b=>Nat.beq (firstRegion b) s.id).length 1=true)
  (hS:∀its x,s.dat its=some x->s.cnd x=true->bst s.p its=bst s.p (s.S x 0 (s.ini x)))
  (hlen:∀x,s.cnd x=true->s.len x<C.N) (hI0:∀x,s.cnd x=true->Inv x 0 (s.ini x))
  (hI:∀x j a,s.cnd x=true->j<s.len x->Inv x j a->Inv x (j+1) (s.nx x j a))
  (hr:∀q x j a,s.cnd x=true->j<s.len x->Inv x j a->∀R K,bodyOf C s.f s.id q (bst s.p (s.S x j a)) (rnd s.lv (some s.lx) R K)=R (bst s.p (s.S x (j+1) (s.nx x j a))))
  (he:∀q x a,s.cnd x=true->Inv x (s.len x) a->∀R K,bodyOf C s.f s.id q (bst s.p (s.S x (s.len x) a)) (rnd s.lv (some s.lx) R K)=s.Ke x a K):LoopOk C s.C:=⟨h1,fun q its k rr h=>by
 change s.G its k=some rr at h;unfold FoldL.G at h;split at h
 ·rename_i x hx;rcases br_some h with⟨hc,h2⟩|⟨_,h2⟩
  ·rw[<-h2];show rounds s.lv (some s.lx) (bodyOf C s.f s.id q) C.N (bst s.p its) k=_;rw[hS its x hx hc];exact fold_go (S:=fun j a=>bst s.p (s.S x j a)) (Inv:=Inv x) (hI x · · hc) (fun j a hj hi R K=>hr q x j a hc hj hi R K) (fun a hi R K=>he q x a hc hi R K) k (s.len x) 0 (s.ini x) (by omega) (hI0 x hc) C.N (hlen x hc)
  ·cases h2
 ·cases h⟩
end Go.Ev
namespace Go.Proofs.YtkcnkimndhgkgaaGreatDoor
open Go.Ev
def fns:List Nat:=[3,4,5,6,7,8,9,10,11,12,13,14,15,16,17,18,19,20,21,22,23,24,25,26,27,28,29,30,31,32,33,34,35,36,37,38,39,40,41,42,43,44,45,46,47,48,49,50,51,53,54,55,58,59,60,61,62,63,64,65,66,67,68,69,70,71,72,73,74,75,76,77,78,79,80,81,82,83,84,85,86,87,88,89,90,91,92,93,94,95,96,97,98,99,100,101,102,103,104,105,106,107,108,109,111,112,113,114,115,116,117,118,119,120,121,122,123,125,126,127,128,129,130,131,132,133,134,135,136,137,138,139,140,141,142,143,144,145,146,147,148,150,152,153,154,155,156,157,158,161,162,163,164,165,166,167,168,169,170,171,172,173,175,176,177,178,179,180,182,183,184,185,193,196,197,198,199,200,201,202,203,204,209,210,211,212,213,214,215,216,218,224,230,231,232,233,234,235,236,237,238,241,242,246,247,248,249,250,255,256,257,258,259,260,263]
def Ent(g:FuncId):Prop:=∀(args:Array Value)(w:World),(callFunc g args).run Tryz.prog w=.ok (.enter g args) w
theorem ent_nil:∀g:FuncId,([]:List Nat).contains g=true->Ent g:=fun g h=>by cases h
theorem ent_cons{n:Nat}{l:List Nat}(h:Ent n)(hl:∀g:FuncId,l.contains g=true->Ent g):∀g:FuncId,(n::l).contains g=true->Ent g:=fun g hg=>by
 rw[List.contains_cons,Bool.or_eq_true]at hg;rcases hg with hg|hg
 ·rw[show g=n from eq_of_beq hg];exact h
 ·exact hl g hg
theorem enter:∀(g:FuncId),fns.contains g=true->∀(args:Array Value)(w:World),(callFunc g args).run Tryz.prog w=.ok (.enter g args) w:=ent_cons Tryz.call3 (ent_cons Tryz.call4 (ent_cons Tryz.call5 (ent_cons Tryz.call6 (ent_cons Tryz.call7 (ent_cons Tryz.call8 (ent_cons Tryz.call9 (ent_cons Tryz.call10 (ent_cons Tryz.call11 (ent_cons Tryz.call12 (ent_cons Tryz.call13 (ent_cons Tryz.call14 (ent_cons Tryz.call15 (ent_cons Tryz.call16 (ent_cons Tryz.call17 (ent_cons Tryz.call18 (ent_cons Tryz.call19 (ent_cons Tryz.call20 (ent_cons Tryz.call21 (ent_cons Tryz.call22 (ent_cons Tryz.call23 (ent_cons Tryz.call24 (ent_cons Tryz.call25 (ent_cons Tryz.call26 (ent_cons Tryz.call27 (ent_cons Tryz.call28 (ent_cons Tryz.call29 (ent_cons Tryz.call30 (ent_cons Tryz.call31 (ent_cons Tryz.call32 (ent_cons Tryz.call33 (ent_cons Tryz.call34 (ent_cons Tryz.call35 (ent_cons Tryz.call36 (ent_cons Tryz.call37 (ent_cons Tryz.call38 (ent_cons Tryz.call39 (ent_cons Tryz.call40 (ent_cons Tryz.call41 (ent_cons Tryz.call42 (ent_cons Tryz.call43 (ent_cons Tryz.call44 (ent_cons Tryz.call45 (ent_cons Tryz.call46 (ent_cons Tryz.call47 (ent_cons Tryz.call48 (ent_cons Tryz.call49 (ent_cons Tryz.call50 (ent_cons Tryz.call51 (ent_cons Tryz.call53 (ent_cons Tryz.call54 (ent_cons Tryz.call55 (ent_cons Tryz.call58 (ent_cons Tryz.call59 (ent_cons Tryz.call60 (ent_cons Tryz.call61 (ent_cons Tryz.call62 (ent_cons Tryz.call63 (ent_cons Tryz.call64 (ent_cons Tryz.call65 (ent_cons Tryz.call66 (ent_cons Tryz.call67 (ent_cons Tryz.call68 (ent_cons Tryz.call69 (ent_cons Tryz.call70 (ent_cons Tryz.call71 (ent_cons Tryz.call72 (ent_cons Tryz.call73 (ent_cons Tryz.call74 (ent_cons Tryz.call75 (ent_cons Tryz.call76 (ent_cons Tryz.call77 (ent_cons Tryz.call78 (ent_cons Tryz.call79 (ent_cons Tryz.call80 (ent_cons Tryz.call81 (ent_cons Tryz.call82 (ent_cons Tryz.call83 (ent_cons Tryz.call84 (ent_cons Tryz.call85 (ent_cons Tryz.call86 (ent_cons Tryz.call87 (ent_cons Tryz.call88 (ent_cons Tryz.call89 (ent_cons Tryz.call90 (ent_cons Tryz.call91 (ent_cons Tryz.call92 (ent_cons Tryz.call93 (ent_cons Tryz.call94 (ent_cons Tryz.call95 (ent_cons Tryz.call96 (ent_cons Tryz.call97 (ent_cons Tryz.call98 (ent_cons Tryz.call99 (ent_cons Tryz.call100 (ent_cons Tryz.call101 (ent_cons Tryz.call102 (ent_cons Tryz.call103 (ent_cons Tryz.call104 (ent_cons Tryz.call105 (ent_cons Tryz.call106 (ent_cons Tryz.call107 (ent_cons Tryz.call108 (ent_cons Tryz.call109 (ent_cons Tryz.call111 (ent_cons Tryz.call112 (ent_cons Tryz.call113 (ent_cons Tryz.call114 (ent_cons Tryz.call115 (ent_cons Tryz.call116 (ent_cons Tryz.call117 (ent_cons Tryz.call118 (ent_cons Tryz.call119 (ent_cons Tryz.call120 (ent_cons Tryz.call121 (ent_cons Tryz.call122 (ent_cons Tryz.call123 (ent_cons Tryz.call125 (ent_cons Tryz.call126 (ent_cons Tryz.call127 (ent_cons Tryz.call128 (ent_cons Tryz.call129 (ent_cons Tryz.call130 (ent_cons Tryz.call131 (ent_cons Tryz.call132 (ent_cons Tryz.call133 (ent_cons Tryz.call134 (ent_cons Tryz.call135 (ent_cons Tryz.call136 (ent_cons Tryz.call137 (ent_cons Tryz.call138 (ent_cons Tryz.call139 (ent_cons Tryz.call140 (ent_cons Tryz.call141 (ent_cons Tryz.call142 (ent_cons Tryz.call143 (ent_cons Tryz.call144 (ent_cons Tryz.call145 (ent_cons Tryz.call146 (ent_cons Tryz.call147 (ent_cons Tryz.call148 (ent_cons Tryz.call150 (ent_cons Tryz.call152 (ent_cons Tryz.call153 (ent_cons Tryz.call154 (ent_cons Tryz.call155 (ent_cons Tryz.call156 (ent_cons Tryz.call157 (ent_cons Tryz.call158 (ent_cons Tryz.call161 (ent_cons Tryz.call162 (ent_cons Tryz.call163 (ent_cons Tryz.call164 (ent_cons Tryz.call165 (ent_cons Tryz.call166 (ent_cons Tryz.call167 (ent_cons Tryz.call168 (ent_cons Tryz.call169 (ent_cons Tryz.call170 (ent_cons Tryz.call171 (ent_cons Tryz.call172 (ent_cons Tryz.call173 (ent_cons Tryz.call175 (ent_cons Tryz.call176 (ent_cons Tryz.call177 (ent_cons Tryz.call178 (ent_cons Tryz.call179 (ent_cons Tryz.call180 (ent_cons Tryz.call182 (ent_cons Tryz.call183 (ent_cons Tryz.call184 (ent_cons Tryz.call185 (ent_cons Tryz.call193 (ent_cons Tryz.call196 (ent_cons Tryz.call197 (ent_cons Tryz.call198 (ent_cons Tryz.call199 (ent_cons Tryz.call200 (ent_cons Tryz.call201 (ent_cons Tryz.call202 (ent_cons Tryz.call203 (ent_cons Tryz.call204 (ent_cons Tryz.call209 (ent_cons Tryz.call210 (ent_cons Tryz.call211 (ent_cons Tryz.call212 (ent_cons Tryz.call213 (ent_cons Tryz.call214 (ent_cons Tryz.call215 (ent_cons Tryz.call216 (ent_cons Tryz.call218 (ent_cons Tryz.call224 (ent_cons Tryz.call230 (ent_cons Tryz.call231 (ent_cons Tryz.call232 (ent_cons Tryz.call233 (ent_cons Tryz.call234 (ent_cons Tryz.call235 (ent_cons Tryz.call236 (ent_cons Tryz.call237 (ent_cons Tryz.call238 (ent_cons Tryz.call241 (ent_cons Tryz.call242 (ent_cons Tryz.call246 (ent_cons Tryz.call247 (ent_cons Tryz.call248 (ent_cons Tryz.call249 (ent_cons Tryz.call250 (ent_cons Tryz.call255 (ent_cons Tryz.call256 (ent_cons Tryz.call257 (ent_cons Tryz.call258 (ent_cons Tryz.call259 (ent_cons Tryz.call260 (ent_cons Tryz.call263 ent_nil))))))))))))))))))))))))))))))))))))))))))))))))))))))))))))))))))))))))))))))))))))))))))))))))))))))))))))))))))))))))))))))))))))))))))))))))))))))))))))))))))))))))))))))))))))))))))))))))))))))))))))))))))))))
theorem mixed:Tryz.prog.follows .mixedOrders=true:=by kernel_rfl
def ksI:List CK:=[.int .i64]
def ksV:List CK:=[.slice [.int .i64]]
set_option maxRecDepth 100000
def oddB(v:Int):Bool:=decide (v<0)||decide (v>1000)
theorem br_or{α:Type}(b c:Bool)(x y:Option α):br (b||c) x y=br b x (br c x y):=by cases b<;>rfl
def outB2(lo hi v:Int):Bool:=decide (v<lo)||decide (v>=hi)
def p_l22:PSt:={τ:=[.v (.sl 0),.v (.c (.func (.func 91) #[] #[]))]++pu 5++[.v (.int .i64),.v (.int .i64)]++pu 10,saved:=[[.v (.sl 0),.v (.c (.func (.func 91) #[] #[]))]++pu 2++[.v (.c (.bool false)),.v (.sl 0),.v (.c (.func (.func 91) #[] #[]))]++pu 2,[]],mem:=[.row [.int .i64] false]}
structure A_l22 where
 n:Nat
 len:Int
 j:Int
 n_2:Nat
 n_3:Nat
 r:Row
def d_l22(its:List It):Option A_l22:=match its with|[.n n,.i len,.i j,.n n_2,.n n_3,.r r]=>some ⟨n,len,j,n_2,n_3,r⟩|_=>none
def c_l22(x:A_l22):Bool:=x.j=0∧x.len=x.n∧x.n_2=x.n∧x.n_3=x.n∧x.n<=1000000
def c_l22_iff{x:A_l22}:=@ciff _ c_l22 _ _ rfl x
def l22:ScanL A_l22:=⟨140,2,[0,1,7,8],[4],p_l22,d_l22,fun x j=>[.n x.n,.i (x.n:Int),.i (j:Int),.n x.n,.n x.n,.r x.r],fun x=>x.n,c_l22,fun x j=>oddB (x.r.I j 0),fun x j K=>K .ret ⟨us 4++[i64 ((j:Int))]++us 14,[[S_ 0 0 x.n,.func (.func 91) #[] #[]]++us 2++[.bool false,S_ 0 0 x.n,.func (.func 91) #[] #[]]++us 2,[]],[some (.row [.int .i64] false x.r)]⟩,fun x K=>K (.exit 0) ⟨us 19,[[S_ 0 0 x.n,.func (.func 91) #[] #[]]++us 2++[.bool false,S_ 0 0 x.n,.func (.func 91) #[] #[]]++us 2,[]],[some (.row [.int .i64] false x.r)]⟩⟩
def p_l21:PSt:={τ:=[.v (.sl 0),.v (.c (.func (.func 90) #[] #[]))]++pu 5++[.v (.int .i64),.v (.int .i64)]++pu 10,saved:=[[.v (.sl 0),.v (.c (.func (.func 90) #[] #[]))]++pu 2++[.v (.c (.bool false)),.v (.sl 0),.v (.c (.func (.func 90) #[] #[]))]++pu 2,[]],mem:=[.row [.slice [.int .i64]] false]}
structure A_l21 where
 n:Nat
 len:Int
 j:Int
 n_2:Nat
 n_3:Nat
 r:Row
def d_l21(its:List It):Option A_l21:=match its with|[.n n,.i len,.i j,.n n_2,.n n_3,.r r]=>some ⟨n,len,j,n_2,n_3,r⟩|_=>none
def c_l21(x:A_l21):Bool:=x.j=0∧x.len=x.n∧x.n_2=x.n∧x.n_3=x.n∧x.n<=1000000
def c_l21_iff{x:A_l21}:=@ciff _ c_l21 _ _ rfl x
def l21:ScanL A_l21:=⟨139,2,[0,1,7,8],[4],p_l21,d_l21,fun x j=>[.n x.n,.i (x.n:Int),.i (j:Int),.n x.n,.n x.n,.r x.r],fun x=>x.n,c_l21,fun x j=>decide (((x.r.R j 0).n:Int)>10),fun x j K=>K .ret ⟨us 4++[i64 ((j:Int))]++us 14,[[S_ 0 0 x.n,.func (.func 90) #[] #[]]++us 2++[.bool false,S_ 0 0 x.n,.func (.func 90) #[] #[]]++us 2,[]],[some (.row [.slice [.int .i64]] false x.r)]⟩,fun x K=>K (.exit 0) ⟨us 19,[[S_ 0 0 x.n,.func (.func 90) #[] #[]]++us 2++[.bool false,S_ 0 0 x.n,.func (.func 90) #[] #[]]++us 2,[]],[some (.row [.slice [.int .i64]] false x.r)]⟩⟩
def p_l41:PSt:={τ:=[.v (.sl 0),.v (.c (.func (.func 141) #[] #[.pointer (some ⟨1,0,some 0⟩),.pointer (some ⟨2,0,some 0⟩)]))]++pu 5++[.v (.int .i64),.v (.int .i64)]++pu 10,saved:=[[.v (.sl 0),.v (.c (.func (.func 141) #[] #[.pointer (some ⟨1,0,some 0⟩),.pointer (some ⟨2,0,some 0⟩)]))]++pu 2++[.v (.c (.bool false)),.v (.sl 0),.v (.c (.func (.func 141) #[] #[.pointer (some ⟨1,0,some 0⟩),.pointer (some ⟨2,0,some 0⟩)]))]++pu 2,[.v (.int .i64),.v (.int .i64),.v (.sl 0),.v (.c (.pointer (some ⟨1,0,some 0⟩))),.v (.c (.pointer (some ⟨2,0,some 0⟩)))]++pu 1++[.v (.c (.bool false)),.v (.sl 0),.v (.c (.func (.func 141) #[] #[.pointer (some ⟨1,0,some 0⟩),.pointer (some ⟨2,0,some 0⟩)]))]++pu 2,[]],mem:=[.row [.int .i64] false,.box [.v (.int .i64)],.box [.v (.int .i64)]]}
structure A_l41 where
 n:Nat
 len:Int
 j:Int
 n_2:Nat
 n_3:Nat
 lw:Int
 up:Int
 n_4:Nat
 n_5:Nat
 r:Row
 lb:Int
 hb:Int
def d_l41(its:List It):Option A_l41:=match its with|[.n n,.i len,.i j,.n n_2,.n n_3,.i lw,.i up,.n n_4,.n n_5,.r r,.i lb,.i hb]=>some ⟨n,len,j,n_2,n_3,lw,up,n_4,n_5,r,lb,hb⟩|_=>none
def c_l41(x:A_l41):Bool:=x.j=0∧x.len=x.n∧x.n_2=x.n∧x.n_3=x.n∧x.n_4=x.n∧x.n_5=x.n∧x.n<=1000000
def c_l41_iff{x:A_l41}:=@ciff _ c_l41 _ _ rfl x
def l41:ScanL A_l41:=⟨140,2,[0,1,7,8],[4],p_l41,d_l41,fun x j=>[.n x.n,.i (x.n:Int),.i (j:Int),.n x.n,.n x.n,.i x.lw,.i x.up,.n x.n,.n x.n,.r x.r,.i x.lb,.i x.hb],fun x=>x.n,c_l41,fun x j=>outB2 x.lb x.hb (x.r.I j 0),fun x j K=>K .ret ⟨us 4++[i64 ((j:Int))]++us 14,[[S_ 0 0 x.n,.func (.func 141) #[] #[.pointer (some ⟨1,0,some 0⟩),.pointer (some ⟨2,0,some 0⟩)]]++us 2++[.bool false,S_ 0 0 x.n,.func (.func 141) #[] #[.pointer (some ⟨1,0,some 0⟩),.pointer (some ⟨2,0,some 0⟩)]]++us 2,[i64 x.lw,i64 x.up,S_ 0 0 x.n,.pointer (some ⟨1,0,some 0⟩),.pointer (some ⟨2,0,some 0⟩)]++us 1++[.bool false,S_ 0 0 x.n,.func (.func 141) #[] #[.pointer (some ⟨1,0,some 0⟩),.pointer (some ⟨2,0,some 0⟩)]]++us 2,[]],[some (.row [.int .i64] false x.r),some (.box [i64 x.lb]),some (.box [i64 x.hb])]⟩,fun x K=>K (.exit 0) ⟨us 19,[[S_ 0 0 x.n,.func (.func 141) #[] #[.pointer (some ⟨1,0,some 0⟩),.pointer (some ⟨2,0,some 0⟩)]]++us 2++[.bool false,S_ 0 0 x.n,.func (.func 141) #[] #[.pointer (some ⟨1,0,some 0⟩),.pointer (some ⟨2,0,some 0⟩)]]++us 2,[i64 x.lw,i64 x.up,S_ 0 0 x.n,.pointer (some ⟨1,0,some 0⟩),.pointer (some ⟨2,0,some 0⟩)]++us 1++[.bool false,S_ 0 0 x.n,.func (.func 141) #[] #[.pointer (some ⟨1,0,some 0⟩),.pointer (some ⟨2,0,some 0⟩)]]++us 2,[]],[some (.row [.int .i64] false x.r),some (.box [i64 x.lb]),some (.box [i64 x.hb])]⟩⟩
def FCF2:FD
 |[.slice [.slice [.int .i64]] r,.v (.func (.func 90) ⟨[]⟩ ⟨[]⟩)]=>some (r.n<=1000000,[.v (.bool (anyF (fun j=>decide (((r.R j 0).n:Int)>10)) r.n 0))])
 |_=>none
def FCF1:FD
 |[.slice [.int .i64] r,.v (.func (.func 91) ⟨[]⟩ ⟨[]⟩)]=>some (r.n<=1000000,[.v (.bool (anyF (fun j=>oddB (r.I j 0)) r.n 0))])
 |_=>none
def rowsBig(r:Row):Bool:=anyF (fun j=>decide (((r.R j 0).n:Int)>10)) r.n 0
def rowOdd(r:Row):Bool:=anyF (fun j=>oddB (r.I j 0)) r.n 0
def badRow(r:Row)(j:Nat):Bool:=(((r.R j 0).n:Int) !=((r.R 0 0).n:Int))||rowOdd (r.R j 0)
def p_l7:PSt:={τ:=pu 1++[.v (.c (.pointer (some ⟨0,0,some 0⟩)))]++pu 1++[.v (.c (.func (.func 91) #[] #[]))]++pu 16++[.v (.sl 1),.v (.int .i64),.v (.int .i64)]++pu 17,saved:=[[]],mem:=[.box [.v (.sl 1)],.row [.slice [.int .i64]] false]}
structure A_l7 where
 n:Nat
 len:Int
 j:Int
 n_2:Nat
 r:Row
def d_l7(its:List It):Option A_l7:=match its with|[.n n,.i len,.i j,.n n_2,.r r]=>some ⟨n,len,j,n_2,r⟩|_=>none
def c_l7(x:A_l7):Bool:=x.j=0∧x.len=x.n∧x.n_2=x.n∧x.n<=6∧rowsBig x.r=false∧x.r.n=x.n
def c_l7_iff{x:A_l7}:=@ciff _ c_l7 _ _ rfl x
def l7:ScanL A_l7:=⟨42,7,[1,3,20,21,22],[2],p_l7,d_l7,fun x j=>[.n x.n,.i (x.n:Int),.i (j:Int),.n x.n,.r x.r],fun x=>x.n,c_l7,fun x j=>badRow x.r j,fun x j K=>K .ret ⟨us 2++[i64 8]++us 37,[[]],[]⟩,fun x K=>K (.exit 0) ⟨us 40,[[]],[]⟩⟩
noncomputable def C23:Cx:=mkCx Tryz.prog fns [] [l22.C]
noncomputable def C20:Cx:=mkCx Tryz.prog fns [] [l21.C]
noncomputable def C24:Cx:=mkCx Tryz.prog fns [] [l41.C]
noncomputable def C7:Cx:=mkCx Tryz.prog fns [(89,FCF2),(92,FCF1)] [l7.C]
theorem r_l22(R:St->OD)(K:X->St->OD)(q n:Nat)(len j:Int)(n_2 n_3:Nat)(r:Row):bodyOf C23 140 2 q (bst p_l22 [.n n,.i len,.i j,.n n_2,.n n_3,.r r]) (rnd [0,1,7,8] (some [4]) R K)=br (j<len) (br (0<=j&&j<(n:Int)) (br (r.I (0+j.toNat) 0<0) (K .ret ⟨us 4++[i64 j]++us 14,[[S_ 0 0 n_2,.func (.func 91) #[] #[]]++us 2++[.bool false,S_ 0 0 n_3,.func (.func 91) #[] #[]]++us 2,[]],[some (.row [.int .i64] false r)]⟩) (br (r.I (0+j.toNat) 0>1000) (K .ret ⟨us 4++[i64 j]++us 14,[[S_ 0 0 n_2,.func (.func 91) #[] #[]]++us 2++[.bool false,S_ 0 0 n_3,.func (.func 91) #[] #[]]++us 2,[]],[some (.row [.int .i64] false r)]⟩) (R ⟨[S_ 0 0 n,.func (.func 91) #[] #[]]++us 5++[i64 len,i64 (IntKind.i64.wrap (j+1))]++us 10,[[S_ 0 0 n_2,.func (.func 91) #[] #[]]++us 2++[.bool false,S_ 0 0 n_3,.func (.func 91) #[] #[]]++us 2,[]],[some (.row [.int .i64] false r)]⟩))) none) (K (.exit 0) ⟨us 19,[[S_ 0 0 n_2,.func (.func 91) #[] #[]]++us 2++[.bool false,S_ 0 0 n_3,.func (.func 91) #[] #[]]++us 2,[]],[some (.row [.int .i64] false r)]⟩):=by kernel_rfl
theorem r_l21(R:St->OD)(K:X->St->OD)(q n:Nat)(len j:Int)(n_2 n_3:Nat)(r:Row):bodyOf C20 139 2 q (bst p_l21 [.n n,.i len,.i j,.n n_2,.n n_3,.r r]) (rnd [0,1,7,8] (some [4]) R K)=br (j<len) (br (0<=j&&j<(n:Int)) (br ((↑(r.R (0+j.toNat) 0).n:Int)>10) (K .ret ⟨us 4++[i64 j]++us 14,[[S_ 0 0 n_2,.func (.func 90) #[] #[]]++us 2++[.bool false,S_ 0 0 n_3,.func (.func 90) #[] #[]]++us 2,[]],[some (.row [.slice [.int .i64]] false r)]⟩) (R ⟨[S_ 0 0 n,.func (.func 90) #[] #[]]++us 5++[i64 len,i64 (IntKind.i64.wrap (j+1))]++us 10,[[S_ 0 0 n_2,.func (.func 90) #[] #[]]++us 2++[.bool false,S_ 0 0 n_3,.func (.func 90) #[] #[]]++us 2,[]],[some (.row [.slice [.int .i64]] false r)]⟩)) none) (K (.exit 0) ⟨us 19,[[S_ 0 0 n_2,.func (.func 90) #[] #[]]++us 2++[.bool false,S_ 0 0 n_3,.func (.func 90) #[] #[]]++us 2,[]],[some (.row [.slice [.int .i64]] false r)]⟩):=by kernel_rfl
theorem r_l41(R:St->OD)(K:X->St->OD)(q n:Nat)(len j:Int)(n_2 n_3:Nat)(lw up:Int)(n_4 n_5:Nat)(r:Row)(lb hb:Int):bodyOf C24 140 2 q (bst p_l41 [.n n,.i len,.i j,.n n_2,.n n_3,.i lw,.i up,.n n_4,.n n_5,.r r,.i lb,.i hb]) (rnd [0,1,7,8] (some [4]) R K)=br (j<len) (br (0<=j&&j<(n:Int)) (br (r.I (0+j.toNat) 0<lb) (K .ret ⟨us 4++[i64 j]++us 14,[[S_ 0 0 n_2,.func (.func 141) #[] #[.pointer (some ⟨1,0,some 0⟩),.pointer (some ⟨2,0,some 0⟩)]]++us 2++[.bool false,S_ 0 0 n_3,.func (.func 141) #[] #[.pointer (some ⟨1,0,some 0⟩),.pointer (some ⟨2,0,some 0⟩)]]++us 2,[i64 lw,i64 up,S_ 0 0 n_4,.pointer (some ⟨1,0,some 0⟩),.pointer (some ⟨2,0,some 0⟩)]++us 1++[.bool false,S_ 0 0 n_5,.func (.func 141) #[] #[.pointer (some ⟨1,0,some 0⟩),.pointer (some ⟨2,0,some 0⟩)]]++us 2,[]],[some (.row [.int .i64] false r),some (.box [i64 lb]),some (.box [i64 hb])]⟩) (br (r.I (0+j.toNat) 0>=hb) (K .ret ⟨us 4++[i64 j]++us 14,[[S_ 0 0 n_2,.func (.func 141) #[] #[.pointer (some ⟨1,0,some 0⟩),.pointer (some ⟨2,0,some 0⟩)]]++us 2++[.bool false,S_ 0 0 n_3,.func (.func 141) #[] #[.pointer (some ⟨1,0,some 0⟩),.pointer (some ⟨2,0,some 0⟩)]]++us 2,[i64 lw,i64 up,S_ 0 0 n_4,.pointer (some ⟨1,0,some 0⟩),.pointer (some ⟨2,0,some 0⟩)]++us 1++[.bool false,S_ 0 0 n_5,.func (.func 141) #[] #[.pointer (some ⟨1,0,some 0⟩),.pointer (some ⟨2,0,some 0⟩)]]++us 2,[]],[some (.row [.int .i64] false r),some (.box [i64 lb]),some (.box [i64 hb])]⟩) (R ⟨[S_ 0 0 n,.func (.func 141) #[] #[.pointer (some ⟨1,0,some 0⟩),.pointer (some ⟨2,0,some 0⟩)]]++us 5++[i64 len,i64 (IntKind.i64.wrap (j+1))]++us 10,[[S_ 0 0 n_2,.func (.func 141) #[] #[.pointer (some ⟨1,0,some 0⟩),.pointer (some ⟨2,0,some 0⟩)]]++us 2++[.bool false,S_ 0 0 n_3,.func (.func 141) #[] #[.pointer (some ⟨1,0,some 0⟩),.pointer (some ⟨2,0,some 0⟩)]]++us 2,[i64 lw,i64 up,S_ 0 0 n_4,.pointer (some ⟨1,0,some 0⟩),.pointer (some ⟨2,0,some 0⟩)]++us 1++[.bool false,S_ 0 0 n_5,.func (.func 141) #[] #[.pointer (some ⟨1,0,some 0⟩),.pointer (some ⟨2,0,some 0⟩)]]++us 2,[]],[some (.row [.int .i64] false r),some (.box [i64 lb]),some (.box [i64 hb])]⟩))) none) (K (.exit 0) ⟨us 19,[[S_ 0 0 n_2,.func (.func 141) #[] #[.pointer (some ⟨1,0,some 0⟩),.pointer (some ⟨2,0,some 0⟩)]]++us 2++[.bool false,S_ 0 0 n_3,.func (.func 141) #[] #[.pointer (some ⟨1,0,some 0⟩),.pointer (some ⟨2,0,some 0⟩)]]++us 2,[i64 lw,i64 up,S_ 0 0 n_4,.pointer (some ⟨1,0,some 0⟩),.pointer (some ⟨2,0,some 0⟩)]++us 1++[.bool false,S_ 0 0 n_5,.func (.func 141) #[] #[.pointer (some ⟨1,0,some 0⟩),.pointer (some ⟨2,0,some 0⟩)]]++us 2,[]],[some (.row [.int .i64] false r),some (.box [i64 lb]),some (.box [i64 hb])]⟩):=by kernel_rfl
theorem r_l7(R:St->OD)(K:X->St->OD)(q n:Nat)(len j:Int)(n_2:Nat)(r:Row):bodyOf C7 42 7 q (bst p_l7 [.n n,.i len,.i j,.n n_2,.r r]) (rnd [1,3,20,21,22] (some [2]) R K)=br (j<len) (br (0<=j&&j<(n:Int)) (br ((0:Int)<=0&&0<(n_2:Int)) (br ((↑(r.R (0+j.toNat) 0).n:Int) !=(↑(r.R 0 0).n:Int)) (K .ret ⟨us 2++[i64 8]++us 37,[[]],[]⟩) (br ((winOf (r.R (0+j.toNat) 0) 0 (r.R (0+j.toNat) 0).n).n<=1000000) (br (anyF (fun j_1=>oddB ((winOf (r.R (0+j.toNat) 0) 0 (r.R (0+j.toNat) 0).n).I j_1 0)) (winOf (r.R (0+j.toNat) 0) 0 (r.R (0+j.toNat) 0).n).n 0) (K .ret ⟨us 2++[i64 8]++us 37,[[]],[]⟩) (R ⟨us 1++[.pointer (some ⟨0,0,some 0⟩)]++us 1++[.func (.func 91) #[] #[]]++us 16++[S_ 1 0 n,i64 len,i64 (IntKind.i64.wrap (j+1))]++us 17,[[]],[some (.box [S_ 1 0 n_2]),some (.row [.slice [.int .i64]] false r)]⟩)) none)) none) none) (K (.exit 0) ⟨us 40,[[]],[]⟩):=by kernel_rfl
theorem u23(r:Row):evF C23 6 92 [.slice ksI r,.v (.func (.func 91) #[] #[])]=br (c_l22 (⟨r.n,(r.n:Int),0,r.n,r.n,r⟩:A_l22)) (br (anyF (fun j=>oddB (r.I j 0)) r.n 0) (some [.v (.bool ((↑(fstF (l22.bad (⟨r.n,(r.n:Int),0,r.n,r.n,r⟩:A_l22)) (l22.len (⟨r.n,(r.n:Int),0,r.n,r.n,r⟩:A_l22)) 0):Int)>=0))]) (some [.v (.bool (-1>=0))])) (none):=by kernel_rfl
theorem u20(r:Row):evF C20 6 89 [.slice ksV r,.v (.func (.func 90) #[] #[])]=br (c_l21 (⟨r.n,(r.n:Int),0,r.n,r.n,r⟩:A_l21)) (br (anyF (fun j=>decide ((↑(r.R j 0).n:Int)>10)) r.n 0) (some [.v (.bool ((↑(fstF (l21.bad (⟨r.n,(r.n:Int),0,r.n,r.n,r⟩:A_l21)) (l21.len (⟨r.n,(r.n:Int),0,r.n,r.n,r⟩:A_l21)) 0):Int)>=0))]) (some [.v (.bool (-1>=0))])) (none):=by kernel_rfl
theorem u24(lo hi:Int)(r:Row):evF C24 6 93 [.v (i64 lo),.v (i64 hi),.slice ksI r]=br (c_l41 (⟨r.n,(r.n:Int),0,r.n,r.n,lo,hi,r.n,r.n,r,lo,hi⟩:A_l41)) (br (anyF (fun j=>outB2 lo hi (r.I j 0)) r.n 0) (some [.v (.bool (!decide ((↑(fstF (l41.bad (⟨r.n,(r.n:Int),0,r.n,r.n,lo,hi,r.n,r.n,r,lo,hi⟩:A_l41)) (l41.len (⟨r.n,(r.n:Int),0,r.n,r.n,lo,hi,r.n,r.n,r,lo,hi⟩:A_l41)) 0):Int)>=0)))]) (some [.v (.bool (!decide (-1>=0)))])) (none):=by kernel_rfl
theorem u7(r:Row):evF C7 6 42 [.agg [.slice ksV r]]=br ((r.n:Int)>6) (some [.v (i64 4)]) (br ((winOf r 0 r.n).n<=1000000) (br (anyF (fun j=>decide ((↑((winOf r 0 r.n).R j 0).n:Int)>10)) (winOf r 0 r.n).n 0) (some [.v (i64 4)]) (br ((r.n:Int)==0) (some [.v (i64 8)]) (br (c_l7 (⟨r.n,(r.n:Int),0,r.n,r⟩:A_l7)) (br (anyF (fun j=>badRow r j) r.n 0) (some [.v (i64 8)]) (some [.v (i64 0)])) none))) none):=by kernel_rfl
theorem ok_l22:LoopOk C23 l22.C:=l22.ok (by kernel_rfl)
 (fun its x h hc=>by
  replace h:d_l22 its=some x:=h;unfold d_l22 at h;split at h
  ·cases h;obtain⟨h1,h2,h3,h4,h5⟩:=c_l22_iff.1 hc;dsimp only at h1 h2 h3 h4;subst h1 h2 h3 h4;rfl
  ·cases h)
 (fun x hc=>by have:=c_l22_iff.1 hc;show x.n<18446744073709551616;omega)
 (fun q ⟨n,len0,j0,n_2,n_3,r⟩ j hc hi R K=>by
  obtain⟨h1,h2,h3,h4,h5⟩:=c_l22_iff.1 hc;dsimp only at*
  replace hi:j<n:=hi;refine(r_l22 R K q n ((n:Int)) ((j:Int)) n n r).trans ?_;rw[A9,AE j,gd j n hi,ltd j n hi,wsn (by omega),br_true,br_true];exact(br_or _ _ _ _).symm)
 (fun q ⟨n,len0,j0,n_2,n_3,r⟩ hc R K=>by
  obtain⟨h1,h2,h3,h4,h5⟩:=c_l22_iff.1 hc;dsimp only at*
  refine(r_l22 R K q n ((n:Int)) ((n:Int)) n n r).trans ?_;rw[ltn n];rfl)
theorem ok_l21:LoopOk C20 l21.C:=l21.ok (by kernel_rfl)
 (fun its x h hc=>by
  replace h:d_l21 its=some x:=h;unfold d_l21 at h;split at h
  ·cases h;obtain⟨h1,h2,h3,h4,h5⟩:=c_l21_iff.1 hc;dsimp only at h1 h2 h3 h4;subst h1 h2 h3 h4;rfl
  ·cases h)
 (fun x hc=>by have:=c_l21_iff.1 hc;show x.n<18446744073709551616;omega)
 (fun q ⟨n,len0,j0,n_2,n_3,r⟩ j hc hi R K=>by
  obtain⟨h1,h2,h3,h4,h5⟩:=c_l21_iff.1 hc;dsimp only at*
  replace hi:j<n:=hi;refine(r_l21 R K q n ((n:Int)) ((j:Int)) n n r).trans ?_;rw[A9,AE j,gd j n hi,ltd j n hi,wsn (by omega)];rfl)
 (fun q ⟨n,len0,j0,n_2,n_3,r⟩ hc R K=>by
  obtain⟨h1,h2,h3,h4,h5⟩:=c_l21_iff.1 hc;dsimp only at*
  refine(r_l21 R K q n ((n:Int)) ((n:Int)) n n r).trans ?_;rw[ltn n];rfl)
theorem ok_l41:LoopOk C24 l41.C:=l41.ok (by kernel_rfl)
 (fun its x h hc=>by
  replace h:d_l41 its=some x:=h;unfold d_l41 at h;split at h
  ·cases h;obtain⟨h1,h2,h3,h4,h5,h6,h7⟩:=c_l41_iff.1 hc;dsimp only at h1 h2 h3 h4 h5 h6;subst h1 h2 h3 h4 h5 h6;rfl
  ·cases h)
 (fun x hc=>by have:=c_l41_iff.1 hc;show x.n<18446744073709551616;omega)
 (fun q ⟨n,len0,j0,n_2,n_3,lw,up,n_4,n_5,r,lb,hb⟩ j hc hi R K=>by
  obtain⟨h1,h2,h3,h4,h5,h6,h7⟩:=c_l41_iff.1 hc;dsimp only at*
  replace hi:j<n:=hi;refine(r_l41 R K q n ((n:Int)) ((j:Int)) n n lw up n n r lb hb).trans ?_;rw[A9,AE j,gd j n hi,ltd j n hi,wsn (by omega),br_true,br_true];exact(br_or _ _ _ _).symm)
 (fun q ⟨n,len0,j0,n_2,n_3,lw,up,n_4,n_5,r,lb,hb⟩ hc R K=>by
  obtain⟨h1,h2,h3,h4,h5,h6,h7⟩:=c_l41_iff.1 hc;dsimp only at*
  refine(r_l41 R K q n ((n:Int)) ((n:Int)) n n lw up n n r lb hb).trans ?_;rw[ltn n];rfl)
theorem ok_l7:LoopOk C7 l7.C:=l7.ok (by kernel_rfl)
 (fun its x h hc=>by
  replace h:d_l7 its=some x:=h;unfold d_l7 at h;split at h
  ·cases h;obtain⟨h1,h2,h3,h4,h5,h6⟩:=c_l7_iff.1 hc;dsimp only at h1 h2 h3;subst h1 h2 h3;rfl
  ·cases h)
 (fun x hc=>by have:=c_l7_iff.1 hc;show x.n<18446744073709551616;omega)
 (fun q ⟨n,len0,j0,n_2,r⟩ j hc hi R K=>by
  obtain⟨h1,h2,h3,h4,h5,h6⟩:=c_l7_iff.1 hc;dsimp only at*
  replace hi:j<n:=hi;refine(r_l7 R K q n ((n:Int)) ((j:Int)) n r).trans ?_;have hb:=anyF_false.1 (show anyF _ _ _=false from h5) j (Nat.zero_le _) (by omega);replace hb:=AO hb;rw[A9,AE j,gd j n hi,ltd j n hi,wsn (by omega),show decide ((winOf (r.R j 0) 0 (r.R j 0).n).n<=1000000)=true from A4 (by rw[winOf_n];omega),show(decide ((0:Int)<=0)&&decide ((0:Int)<(n:Int)))=true by simp only[A2,A3];omega,br_true,br_true,br_true,br_true];exact(br_or _ _ _ _).symm)
 (fun q ⟨n,len0,j0,n_2,r⟩ hc R K=>by
  obtain⟨h1,h2,h3,h4,h5,h6⟩:=c_l7_iff.1 hc;dsimp only at*
  refine(r_l7 R K q n ((n:Int)) ((n:Int)) n r).trans ?_;rw[ltn n];rfl)
theorem C23_ok:CxOk C23:=mkCx_ok enter mixed (fun p h=>by cases h) (fun l h=>by
 simp only[A8,A7,or_false]at h;rcases h with rfl;exact ok_l22)
theorem C20_ok:CxOk C20:=mkCx_ok enter mixed (fun p h=>by cases h) (fun l h=>by
 simp only[A8,A7,or_false]at h;rcases h with rfl;exact ok_l21)
theorem C24_ok:CxOk C24:=mkCx_ok enter mixed (fun p h=>by cases h) (fun l h=>by
 simp only[A8,A7,or_false]at h;rcases h with rfl;exact ok_l41)
theorem den_CF1:Den Tryz.prog 92 FCF1:=evF_den C23_ok fun ds rs h=>by
 unfold FCF1 at h;split at h
 ·rename_i r;simp only[A5,A6]at h;obtain⟨h0,rfl⟩:=h;have h0:=AD h0;refine(u23 r).trans ?_;rw[c_l22_iff.2 ⟨rfl,rfl,rfl,rfl,h0⟩,br_true];show br (anyF (fun j=>oddB (r.I j 0)) r.n 0) _ _=some [D.v (.bool (anyF (fun j=>oddB (r.I j 0)) r.n 0))];cases anyF (fun j=>oddB (r.I j 0)) r.n 0
  ·rfl
  ·rw[br_true,A4 (by omega)]
 ·cases h
theorem den_CF2:Den Tryz.prog 89 FCF2:=evF_den C20_ok fun ds rs h=>by
 unfold FCF2 at h;split at h
 ·rename_i r;simp only[A5,A6]at h;obtain⟨h0,rfl⟩:=h;have h0:=AD h0;refine(u20 r).trans ?_;rw[c_l21_iff.2 ⟨rfl,rfl,rfl,rfl,h0⟩,br_true];show br (anyF (fun j=>decide (((r.R j 0).n:Int)>10)) r.n 0) _ _=some [D.v (.bool (anyF (fun j=>decide (((r.R j 0).n:Int)>10)) r.n 0))];cases anyF (fun j=>decide (((r.R j 0).n:Int)>10)) r.n 0
  ·rfl
  ·rw[br_true,A4 (by omega)]
 ·cases h
def winB(lo hi:Int)(r:Row):Bool:= !anyF (fun j=>outB2 lo hi (r.I j 0)) r.n 0
def Fwin:FD
 |[.v (.int .i64 lo),.v (.int .i64 hi),.slice [.int .i64] r]=>some (r.n<=1000000,[.v (.bool (winB lo hi r))])
 |_=>none
theorem den_within:Den Tryz.prog 93 Fwin:=evF_den C24_ok fun ds rs h=>by
 unfold Fwin at h;split at h
 ·rename_i lo hi r;simp only[A5,A6]at h;obtain⟨h0,rfl⟩:=h;have h0:=AD h0;refine(u24 lo hi r).trans ?_;rw[c_l41_iff.2 ⟨rfl,rfl,rfl,rfl,rfl,rfl,h0⟩,br_true];unfold winB;show br (anyF (fun j=>outB2 lo hi (r.I j 0)) r.n 0) _ _=_;cases anyF (fun j=>outB2 lo hi (r.I j 0)) r.n 0
  ·rfl
  ·rw[br_true,A4 (by omega)]
 ·cases h
theorem C7_ok:CxOk C7:=mkCx_ok enter mixed (fun p h=>by
 simp only[A8,A7,or_false]at h;rcases h with rfl|rfl
 ·exact den_CF2
 ·exact den_CF1) (fun l h=>by
 simp only[A8,A7,or_false]at h;rcases h with rfl;exact ok_l7)
def chkE(r:Row):Int:=bif decide ((r.n:Int)>6)||rowsBig r then 4 else bif (r.n:Int)==0||anyF (badRow r) r.n 0 then 8 else 0
def Fchk:FD
 |[.agg [.slice [.slice [.int .i64]] r]]=>some (r.n<=1000000,[.v (i64 (chkE r))])
 |_=>none
theorem den_chk:Den Tryz.prog 42 Fchk:=evF_den C7_ok fun ds rs h=>by
 unfold Fchk at h;split at h
 ·rename_i r;simp only[A5,A6]at h;obtain⟨h0,rfl⟩:=h;have h0:=AD h0;refine(u7 r).trans ?_;unfold chkE;by_cases c1:(r.n:Int)>6
  ·rw[A4 c1];rfl
  ·rw[AB c1,br_false,A4 (show(winOf r 0 r.n).n<=1000000 by rw[winOf_n];exact h0),br_true,Bool.false_or];show br (rowsBig r) _ _=_;cases c2:rowsBig r
   ·rw[br_false];cases c3:(r.n:Int)==0
    ·rw[br_false,c_l7_iff.2 ⟨rfl,rfl,rfl,by dsimp only;omega,c2,rfl⟩,br_true];show br (anyF (badRow r) r.n 0) _ _=_;cases anyF (badRow r) r.n 0<;>rfl
    ·rfl
   ·rfl
 ·cases h
theorem chk_zero{r:Row}(h:chkE r=0):1<=r.n∧r.n<=6∧∀i,i<r.n->(r.R i 0).n=(r.R 0 0).n∧(r.R i 0).n<=10∧∀k,k<(r.R i 0).n->0<=(r.R i 0).I k 0∧(r.R i 0).I k 0<=1000:=by
 unfold chkE at h;cases c1:decide ((r.n:Int)>6)||rowsBig r
 ·rw[c1,cond_false]at h;rw[AI,decide_eq_false_iff_not]at c1;cases c2:(r.n:Int)==0||anyF (badRow r) r.n 0
  ·rw[AI]at c2;have c3:¬(r.n:Int)=0:=by simpa using c2.1
   refine⟨by omega,by omega,fun i hi=>?_⟩;have c4:=anyF_false.1 c2.2 i (Nat.zero_le _) (by omega);have c5:=AO (anyF_false.1 c1.2 i (Nat.zero_le _) (by omega));unfold badRow at c4;rw[AI]at c4;have c6:((r.R i 0).n:Int)=((r.R 0 0).n:Int):=by simpa using c4.1
   refine⟨by omega,by omega,fun k hk=>?_⟩;have c7:=anyF_false.1 c4.2 k (Nat.zero_le _) (by omega);simp only[oddB,AI,decide_eq_false_iff_not]at c7;omega
  ·rw[c2]at h;cases h
 ·rw[c1]at h;cases h
noncomputable def C8:Cx:=mkCx Tryz.prog fns [(42,Fchk),(93,Fwin)] []
theorem C8_ok:CxOk C8:=mkCx_ok enter mixed (fun p h=>by
 simp only[A8,A7,or_false]at h;rcases h with rfl|rfl
 ·exact den_chk
 ·exact den_within) (fun l h=>by cases h)
theorem u8(r a:Row):evF C8 6 43 [.agg [.slice ksV r],.slice ksI a]=br ((winOf r 0 r.n).n<=1000000) (br (chkE (winOf r 0 r.n) !=0) (some [.v (i64 (chkE (winOf r 0 r.n)))]) (br ((0:Int)<=0&&0<(r.n:Int)) (br ((a.n:Int) !=(↑(r.R 0 0).n:Int)) (some [.v (i64 8)]) (br ((winOf a 0 a.n).n<=1000000) (br (!winB (-1) (r.n:Int) (winOf a 0 a.n)) (some [.v (i64 8)]) (some [.v (i64 0)])) none)) none)) (none):=by kernel_rfl
def valE(r a:Row):Int:=bif chkE r !=0 then chkE r else bif (a.n:Int) !=((r.R 0 0).n:Int)|| !winB (-1) r.n a then 8 else 0
def Fval:FD
 |[.agg [.slice [.slice [.int .i64]] r],.slice [.int .i64] a]=>some (r.n<=1000000∧a.n<=1000000,[.v (i64 (valE r a))])
 |_=>none
theorem den_val:Den Tryz.prog 43 Fval:=evF_den C8_ok fun ds rs h=>by
 unfold Fval at h;split at h
 ·rename_i r a;simp only[A5,A6]at h;obtain⟨h0,rfl⟩:=h;have h0:=AD h0;refine(u8 r a).trans ?_;unfold valE;rw[A4 (show(winOf r 0 r.n).n<=1000000 by rw[winOf_n];exact h0.1),br_true];show br (chkE r !=0) _ _=_;cases c1:chkE r !=0
  ·have c1:chkE r=0:=by simpa using c1
   have c2:=(chk_zero c1).1;rw[br_false,show(decide ((0:Int)<=0)&&decide ((0:Int)<(r.n:Int)))=true by simp only[A2,A3];omega,br_true];cases c3:(a.n:Int) !=((r.R 0 0).n:Int)
   ·rw[br_false,A4 (show(winOf a 0 a.n).n<=1000000 by rw[winOf_n];exact h0.2),br_true];show br (!winB (-1) r.n a) _ _=_;cases winB (-1) r.n a<;>rfl
   ·rfl
  ·rfl
 ·cases h
def vApp(o w:Row):Row:=(winOf o 0 o.n).app (winOf ((Row.zeros 1).setR 0 0 w) 0 1)
def win0(r:Row):Row:=winOf r 0 r.n
def p_l26:PSt:={τ:=pu 3++[.v (.int .i64)]++pu 2++[.v (.sl 0),.v (.int .i64),.v (.int .i64)]++pu 8,saved:=[[]],mem:=[.row [.int .i64] false]}
structure A_l26 where
 s:Int
 n:Nat
 len:Int
 j:Int
 r:Row
def d_l26(its:List It):Option A_l26:=match its with|[.i s,.n n,.i len,.i j,.r r]=>some ⟨s,n,len,j,r⟩|_=>none
def c_l26(x:A_l26):Bool:=x.j=0∧x.len=x.n∧x.n<=1000000
def c_l26_iff{x:A_l26}:=@ciff _ c_l26 _ _ rfl x
def l26:FoldL A_l26 (Int):=⟨72,3,[3,6,7,8],[2,3],p_l26,d_l26,fun x j a=>[.i a,.n x.n,.i (x.n:Int),.i (j:Int),.r x.r],fun x=>x.n,c_l26,fun x=>x.s,fun x j a=>IntKind.i64.wrap (a+x.r.I j 0),fun x a K=>K (.exit 0) ⟨us 3++[i64 ((a))]++us 13,[[]],[]⟩⟩
def suI(r:Row):Int:=fldN (fun j a=>IntKind.i64.wrap (a+r.I j 0)) r.n 0 0
def Fsum:FD
 |[.slice [.int .i64] r]=>some (r.n<=1000000,[.v (i64 (suI r))])
 |_=>none
noncomputable def C26:Cx:=mkCx Tryz.prog fns [] [l26.C]
theorem r_l26(R:St->OD)(K:X->St->OD)(q:Nat)(s:Int)(n:Nat)(len j:Int)(r:Row):bodyOf C26 72 3 q (bst p_l26 [.i s,.n n,.i len,.i j,.r r]) (rnd [3,6,7,8] (some [2,3]) R K)=br (j<len) (br (0<=j&&j<(n:Int)) (R ⟨us 3++[i64 (IntKind.i64.wrap (s+r.I (0+j.toNat) 0))]++us 2++[S_ 0 0 n,i64 len,i64 (IntKind.i64.wrap (j+1))]++us 8,[[]],[some (.row [.int .i64] false r)]⟩) none) (K (.exit 0) ⟨us 3++[i64 s]++us 13,[[]],[]⟩):=by kernel_rfl
theorem u26(r:Row):evF C26 6 72 [.slice ksI r]=br (c_l26 (⟨0,r.n,(r.n:Int),0,r⟩:A_l26)) (some [.v (i64 (fldN (fun j a=>IntKind.i64.wrap (a+r.I j 0)) r.n 0 0))]) (none):=by kernel_rfl
theorem ok_l26:LoopOk C26 l26.C:=l26.ok (fun x j a=>True) (by kernel_rfl)
 (fun its x h hc=>by
  replace h:d_l26 its=some x:=h;unfold d_l26 at h;split at h
  ·cases h;obtain⟨h1,h2,h3⟩:=c_l26_iff.1 hc;dsimp only at h1 h2;subst h1 h2;rfl
  ·cases h)
 (fun x hc=>by have:=c_l26_iff.1 hc;show x.n<18446744073709551616;omega)
 (fun x hc=>by
  trivial)
 (fun x j a hc hi hI=>by
  trivial)
 (fun q ⟨s0,n,len0,j0,r⟩ j a hc hi hI R K=>by
  obtain⟨h1,h2,h3⟩:=c_l26_iff.1 hc;dsimp only at*
  replace hi:j<n:=hi;refine(r_l26 R K q ((a)) n ((n:Int)) ((j:Int)) r).trans ?_;rw[A9,AE j,gd j n hi,ltd j n hi,wsn (by omega)];rfl)
 (fun q ⟨s0,n,len0,j0,r⟩ a hc hI R K=>by
  obtain⟨h1,h2,h3⟩:=c_l26_iff.1 hc;dsimp only at*
  refine(r_l26 R K q ((a)) n ((n:Int)) ((n:Int)) r).trans ?_;rw[ltn n];rfl)
theorem C26_ok:CxOk C26:=mkCx_ok enter mixed (fun p h=>by cases h) (fun l h=>by
 simp only[A8,A7,or_false]at h;rcases h with rfl;exact ok_l26)
theorem den_sum:Den Tryz.prog 72 Fsum:=evF_den C26_ok fun ds rs h=>by
 unfold Fsum at h;split at h
 ·rename_i r;simp only[A5,A6]at h;obtain⟨h0,rfl⟩:=h;have h0:=AD h0;refine(u26 r).trans ?_;rw[c_l26_iff.2 ⟨rfl,rfl,h0⟩,br_true];rfl
 ·cases h
def p_l32:PSt:={τ:=pu 5++[.v (.sl 0),.v (.int .i64),.v (.int .i64)]++pu 7,saved:=[[]],mem:=[.row [.int .i64] false]}
structure A_l32 where
 n:Nat
 len:Int
 j:Int
 r:Row
def d_l32(its:List It):Option A_l32:=match its with|[.n n,.i len,.i j,.r r]=>some ⟨n,len,j,r⟩|_=>none
def c_l32(x:A_l32):Bool:=x.j=0∧x.len=x.n∧x.n<=1000000
def c_l32_iff{x:A_l32}:=@ciff _ c_l32 _ _ rfl x
def l32:ScanL A_l32:=⟨41,2,[5,6,7],[2],p_l32,d_l32,fun x j=>[.n x.n,.i (x.n:Int),.i (j:Int),.r x.r],fun x=>x.n,c_l32,fun x j=>x.r.I j 0 !=0,fun x j K=>K .ret ⟨us 2++[i64 (x.r.I j 0)]++us 12,[[]],[]⟩,fun x K=>K (.exit 0) ⟨us 15,[[]],[]⟩⟩
noncomputable def C32:Cx:=mkCx Tryz.prog fns [] [l32.C]
theorem r_l32(R:St->OD)(K:X->St->OD)(q n:Nat)(len j:Int)(r:Row):bodyOf C32 41 2 q (bst p_l32 [.n n,.i len,.i j,.r r]) (rnd [5,6,7] (some [2]) R K)=br (j<len) (br (0<=j&&j<(n:Int)) (br (r.I (0+j.toNat) 0 !=0) (K .ret ⟨us 2++[i64 (r.I (0+j.toNat) 0)]++us 12,[[]],[]⟩) (R ⟨us 5++[S_ 0 0 n,i64 len,i64 (IntKind.i64.wrap (j+1))]++us 7,[[]],[some (.row [.int .i64] false r)]⟩)) none) (K (.exit 0) ⟨us 15,[[]],[]⟩):=by kernel_rfl
theorem u32(r:Row):evF C32 6 41 [.slice ksI r]=br (c_l32 (⟨r.n,(r.n:Int),0,r⟩:A_l32)) (br (anyF (fun j=>r.I j 0 !=0) r.n 0) (some [.v (i64 (r.I (fstF (fun j=>r.I j 0 !=0) r.n 0) 0))]) (some [.v (i64 0)])) (none):=by kernel_rfl
theorem ok_l32:LoopOk C32 l32.C:=l32.ok (by kernel_rfl)
 (fun its x h hc=>by
  replace h:d_l32 its=some x:=h;unfold d_l32 at h;split at h
  ·cases h;obtain⟨h1,h2,h3⟩:=c_l32_iff.1 hc;dsimp only at h1 h2;subst h1 h2;rfl
  ·cases h)
 (fun x hc=>by have:=c_l32_iff.1 hc;show x.n<18446744073709551616;omega)
 (fun q ⟨n,len0,j0,r⟩ j hc hi R K=>by
  obtain⟨h1,h2,h3⟩:=c_l32_iff.1 hc;dsimp only at*
  replace hi:j<n:=hi;refine(r_l32 R K q n ((n:Int)) ((j:Int)) r).trans ?_;rw[A9,AE j,gd j n hi,ltd j n hi,wsn (by omega)];rfl)
 (fun q ⟨n,len0,j0,r⟩ hc R K=>by
  obtain⟨h1,h2,h3⟩:=c_l32_iff.1 hc;dsimp only at*
  refine(r_l32 R K q n ((n:Int)) ((n:Int)) r).trans ?_;rw[ltn n];rfl)
theorem C32_ok:CxOk C32:=mkCx_ok enter mixed (fun p h=>by cases h) (fun l h=>by
 simp only[A8,A7,or_false]at h;rcases h with rfl;exact ok_l32)
def firE(r:Row):Int:=bif anyF (fun j=>r.I j 0 !=0) r.n 0 then r.I (fstF (fun j=>r.I j 0 !=0) r.n 0) 0 else 0
def Ffst:FD
 |[.slice [.int .i64] r]=>some (r.n<=1000000,[.v (i64 (firE r))])
 |_=>none
theorem den_fst:Den Tryz.prog 41 Ffst:=evF_den C32_ok fun ds rs h=>by
 unfold Ffst at h;split at h
 ·rename_i r;simp only[A5,A6]at h;obtain⟨h0,rfl⟩:=h;have h0:=AD h0;refine(u32 r).trans ?_;rw[c_l32_iff.2 ⟨rfl,rfl,h0⟩,br_true];unfold firE;show br (anyF (fun j=>r.I j 0 !=0) r.n 0) _ _=_;cases anyF (fun j=>r.I j 0 !=0) r.n 0<;>rfl
 ·cases h
def ksC:List CK:=[.int .i64,.slice [.int .i64],.slice [.int .i64]]
def ksP:List CK:=[.slice [.int .i64,.int .i64,.int .i64,.int .i64]]
def ksW:List CK:=[.slice [.int .i64,.int .i64]]
def ks3:List CK:=[.int .i64,.int .i64,.int .i64]
def docD(k:Int)(ca pi:Row)(pc:Int)(wo gv aa fv:Row)(rr:Int)(lr lp:Row)(ld:Int)(ba pa:Row)(cl:Int):D:=.agg [.v (.int .u8 k),.slice ksC ca,.slice ksP pi,.v (.int .u8 pc),.slice ksW wo,.slice ksV gv,.slice ksI aa,.slice ksV fv,.v (i64 rr),.slice ksI lr,.slice ksI lp,.v (i64 ld),.slice ksI ba,.slice ks3 pa,.v (.int .u8 cl)]
end Go.Proofs.YtkcnkimndhgkgaaGreatDoor
namespace Go.Proofs.YtkcnkimndhgkgaaGreatDoor.Ld
open Go.Ev Go.RowKit
def Wt(w:World):Prop:=TabAt 2 Lib.deBruijn64tab w∧2<w.heap.size
theorem Wt.later{w w':World}(h:Wt w)(hb:Below w.heap.size w w'):Wt w':=⟨fun j hj=>by rw[hb.cell (p:=⟨2,j,none⟩) h.2];exact h.1 j hj,Nat.lt_of_lt_of_le h.2 hb.size⟩
set_option maxHeartbeats 1000000 in
theorem tz_core(x k idx:Nat)(w:World)(hx0:((x:Int)==0)=false)
  (key:IntKind.u64.wrap (bits BinOp.and IntKind.u64 (x:Int) (IntKind.u64.wrap (-(x:Int)))*285870213051353865)/288230376151711744=(idx:Int))
  (hi:idx<64) (hk:k<64) (hcell:w.cell? ⟨2,idx,none⟩=some (.int .u8 k)):
  Calls Tryz.prog 175 #[.int .u64 x] w fun e w'=>e=.returned (.int .i64 k)∧w'=w:=by
 go_enter Tryz.func175,Tryz.ntmps175
 go_wp2_with (simp only[key])
 go_ret
 exact⟨rfl,rfl⟩
def ctzI(x:Int):Int:=(Lib.ctz 64 x.toNat:Int)
def Ftz:FD
 |[.v (.int .u64 x)]=>some (decide (0<x)&&decide (x<18446744073709551616),[.v (i64 (ctzI x))])
 |_=>none
theorem den_tz:DenW Tryz.prog Wt 175 Ftz:=denW_of_calls (fun _ _ h hb=>h.later hb) fun ds rs h=>by
 unfold Ftz at h;split at h
 ·rename_i x;simp only[A5,A6,A2,A3]at h;obtain⟨⟨h0,h1⟩,rfl⟩:=h;refine⟨[.int .u64 x],[i64 (ctzI x)],rfl,rfl,fun y hy=>?_,fun y hy=>?_,fun w hw=>?_⟩
  ·rw[List.mem_singleton.1 hy];rfl
  ·rw[List.mem_singleton.1 hy];rfl
  ·obtain⟨x,rfl⟩:=Int.eq_ofNat_of_zero_le (Int.le_of_lt h0);obtain⟨hlow,hk⟩:=Lib.lowest_bit 64 x (by omega) (by omega);obtain⟨hi,htab⟩:=Lib.deBruijn64_at _ hk;have hcell:=hw.1 _ hi;rw[htab]at hcell;have:=tz_core x _ _ w (by simp;omega) (tz64_key x _ (by omega) (by omega) hlow) hi hk hcell;exact this
 ·cases h
def ks1:List CK:=[.int .i64]
end Go.Proofs.YtkcnkimndhgkgaaGreatDoor.Ld
namespace Go.Proofs.YtkcnkimndhgkgaaGreatDoor.Ld
open Go.Ev
set_option maxRecDepth 100000
def sl(i n:Nat):Value:=.slice (some ⟨i,0,some 0⟩) n 0
def Rb(own:Bool)(r:Row):Option Blk:=some (.row [.int .i64] own r)
def wi(n:Int):Int:=IntKind.i64.wrap n
def bAnd(a b:Int):Int:=IntKind.i64.wrap ((BitVec.ofInt 64 a&&&BitVec.ofInt 64 b).toNat:Int)
def bXor(a b:Int):Int:=IntKind.i64.wrap ((BitVec.ofInt 64 a^^^BitVec.ofInt 64 b).toNat:Int)
def bOr(a b:Int):Int:=IntKind.i64.wrap ((BitVec.ofInt 64 a|||BitVec.ofInt 64 b).toNat:Int)
def bShr(a b:Int):Int:=a.fdiv (2^min b.toNat 64)
theorem ofI(a:Nat)(h:a<18446744073709551616):(BitVec.ofInt 64 (a:Int)).toNat=a:=by
 rw[BitVec.ofInt_natCast,BitVec.toNat_ofNat];exact Nat.mod_eq_of_lt h
theorem wiN{n:Int}(h1: -9223372036854775808<=n)(h2:n<=9223372036854775807):wi n=n:=wrap64 h1 h2
theorem bAndN(a b:Nat)(ha:a<9223372036854775808)(hb:b<18446744073709551616):bAnd (a:Int) (b:Int)=((a&&&b:Nat):Int):=by
 unfold bAnd;have h:a&&&b<=a:=Nat.and_le_left;rw[BitVec.toNat_and,ofI a (by omega),ofI b hb];exact wrap64 (by omega) (by omega)
theorem bXorN(a b:Nat)(ha:a<9223372036854775808)(hb:b<9223372036854775808):bXor (a:Int) (b:Int)=((a^^^b:Nat):Int):=by
 unfold bXor;have h:a^^^b<2^63:=Nat.xor_lt_two_pow (by omega) (by omega);rw[BitVec.toNat_xor,ofI a (by omega),ofI b (by omega)];exact wrap64 (by omega) (by omega)
theorem bOrN(a b:Nat)(ha:a<9223372036854775808)(hb:b<9223372036854775808):bOr (a:Int) (b:Int)=((a|||b:Nat):Int):=by
 unfold bOr;have h:a|||b<2^63:=Nat.or_lt_two_pow (by omega) (by omega);rw[BitVec.toNat_or,ofI a (by omega),ofI b (by omega)];exact wrap64 (by omega) (by omega)
theorem bShrN(a l:Nat)(hl:l<=64):bShr (a:Int) (l:Int)=((a>>>l:Nat):Int):=by
 unfold bShr;rw[A9,Nat.min_eq_left hl,Int.fdiv_eq_ediv_of_nonneg _ (Int.le_of_lt (Int.pow_pos (by decide))),Nat.shiftRight_eq_div_pow,Int.natCast_ediv,Int.natCast_pow];rfl
theorem bit_iff(a l:Nat)(ha:a<9223372036854775808)(hl:l<=64):(bAnd (bShr (a:Int) (l:Int)) 1==1)=a.testBit l:=by
 have h1:a>>>l<=a:=by rw[Nat.shiftRight_eq_div_pow];exact Nat.div_le_self _ _
 have h2:=bAndN (a>>>l) 1 (by omega) (by omega);rw[bShrN a l hl,show((1:Int))=((1:Nat):Int)from rfl,h2,Nat.and_one_is_mod];unfold Nat.testBit;rw[Nat.and_comm,Nat.and_one_is_mod];rcases Nat.mod_two_eq_zero_or_one (a>>>l)with h|h<;>rw[h]<;>rfl
def inU(sm:Row)(s low g:Nat)(ou:Row):Row:=if g.testBit low=true∧g≠s∧sm.I g 0=0 then ou.setI s 0 (if wi (1+ou.I (s^^^g) 0)>ou.I s 0 then wi (1+ou.I (s^^^g) 0)else ou.I s 0)else ou
def innR(sm:Row)(s low:Nat):Nat->Nat->Row->Row
 |0,_,ou=>ou
 |n+1,g,ou=>if g=0 then ou else innR sm s low n ((g-1)&&&s) (inU sm s low g ou)
def S11(nb N M:Nat)(s low g:Int)(b sm ou:Row):St:=⟨[sl 0 nb]++us 2++[sl 1 N,sl 2 M,i64 s,i64 low,i64 g]++us 83,[[]],[Rb false b,Rb true sm,Rb true ou]⟩
def S11x(nb N M:Nat)(s:Int)(b sm ou:Row):St:=⟨[sl 0 nb]++us 2++[sl 1 N,sl 2 M,i64 s]++us 85,[[]],[Rb false b,Rb true sm,Rb true ou]⟩
def G11(cd:Nat->Nat->Nat->Int->Int->Int->Bool):List It->(X->St->OD)->OD
 |[.n nb,.n N,.n M,.i s,.i low,.i g,.r b,.r sm,.r ou],k=>br (cd nb N M s low g) (k (.exit 2) (S11x nb N M s b sm (innR sm s.toNat low.toNat (g.toNat+1) g.toNat ou))) none
 |_,_=>none
def l11(cd:Nat->Nat->Nat->Int->Int->Int->Bool):LoopC where
 f:=95
 id:=11
 lv:=[0,3,4,5,6,7]
 lx:=[0,2,3,4,5]
 p:={τ:=[.v (.sl 0)]++pu 2++[.v (.sl 1),.v (.sl 2),.v (.int .i64),.v (.int .i64),.v (.int .i64)]++pu 83,saved:=[[]],mem:=[.row ks1 false,.row ks1 true,.row ks1 true]}
 G:=G11 cd
def ctzN(s:Nat):Nat:=Lib.ctz 64 s
def smU(b:Row)(s:Nat)(sm:Row):Row:=sm.setI s 0 (wi (sm.I (s&&&(s-1)) 0+b.I (ctzN s) 0))
def ouU(b:Row)(s:Nat)(sm ou:Row):Row:=if(smU b s sm).I s 0≠0 then ou.setI s 0 (-1)else innR (smU b s sm) s (ctzN s) (s+1) s ((ou.setI s 0 (-1)).setI s 0 1)
def mstR(b:Row):Nat->Nat->Row->Row->Row
 |0,_,_,ou=>ou
 |m+1,s,sm,ou=>mstR b m (s+1) (smU b s sm) (ouU b s sm ou)
def S3(nb N M:Nat)(s:Int)(b sm ou:Row):St:=⟨[sl 0 nb]++us 2++[sl 1 N,sl 2 M,i64 s]++us 85,[[]],[Rb false b,Rb true sm,Rb true ou]⟩
def S3x(M:Nat)(ou:Row):St:=⟨us 4++[sl 0 M]++us 86,[[]],[Rb true ou]⟩
def G3(cd:Nat->Nat->Nat->Bool):List It->(X->St->OD)->OD
 |[.n nb,.n N,.n M,.r b,.r sm,.r ou],k=>br (cd nb N M) (k (.exit 0) (S3x M (mstR b (N-1) 1 sm ou))) none
 |_,_=>none
def l3(cd:Nat->Nat->Nat->Bool):LoopC where
 f:=95
 id:=3
 lv:=[0,3,4,5]
 lx:=[2,4]
 p:={τ:=[.v (.sl 0)]++pu 2++[.v (.sl 1),.v (.sl 2),.v (.c (i64 1))]++pu 85,saved:=[[]],mem:=[.row ks1 false,.row ks1 true,.row ks1 true]}
 G:=G3 cd
noncomputable def C1g(c1:Nat->Nat->Nat->Int->Int->Int->Bool)(c2:Nat->Nat->Nat->Bool):Cx:=mkCx Tryz.prog fns [(175,Ftz)] [l11 c1,l3 c2]
theorem round11(c1:Nat->Nat->Nat->Int->Int->Int->Bool)(c2:Nat->Nat->Nat->Bool)(R:St->OD)(K:X->St->OD)(p nb N M:Nat)(s low g:Int)(b sm ou:Row):evCode (C1g c1 c2) 95 true (inl (C1g c1 c2) (p+4)) (lbody (C1g c1 c2).P 95 11) (S11 nb N M s low g b sm ou) (rnd [0,3,4,5,6,7] (some [0,2,3,4,5]) R K)=br (g>0) (br (low<0) none (br (bAnd (bShr g low) 1==1) (br (g !=s) (br (0<=g&&g<(N:Int)) (br (sm.I (0+g.toNat) 0==0) (br (0<=s&&s<(M:Int)) (br (0<=bXor s g&&bXor s g<(M:Int)) (br (0<=s&&s<(M:Int)) (R (S11 nb N M s low (bAnd (wi (g-1)) s) b sm (ou.setI (0+s.toNat) 0 (if wi (1+ou.I (0+(bXor s g).toNat) 0)>ou.I (0+s.toNat) 0 then wi (1+ou.I (0+(bXor s g).toNat) 0)else ou.I (0+s.toNat) 0)))) none) none) none) (R (S11 nb N M s low (bAnd (wi (g-1)) s) b sm ou))) none) (R (S11 nb N M s low (bAnd (wi (g-1)) s) b sm ou))) (R (S11 nb N M s low (bAnd (wi (g-1)) s) b sm ou)))) (K (.exit 2) (S11x nb N M s b sm ou)):=by kernel_rfl
def tzU(s:Int):Int:=ctzI (IntKind.u64.wrap s)
theorem round3(c1:Nat->Nat->Nat->Int->Int->Int->Bool)(c2:Nat->Nat->Nat->Bool)(R:St->OD)(K:X->St->OD)(p nb N M:Nat)(s:Int)(b sm ou:Row):evCode (C1g c1 c2) 95 true (inl (C1g c1 c2) (p+4)) (lbody (C1g c1 c2).P 95 3) (S3 nb N M s b sm ou) (rnd [0,3,4,5] (some [2,4]) R K)=br (s<(M:Int)) (br (0<IntKind.u64.wrap s&&IntKind.u64.wrap s<18446744073709551616) (br (0<=bAnd s (wi (s-1))&&bAnd s (wi (s-1))<(N:Int)) (br (0<=tzU s&&tzU s<(nb:Int)) (br (0<=s&&s<(N:Int)) (br (0<=s&&s<(M:Int)) (br (0<=s&&s<(N:Int)) (br ((sm.setI (0+s.toNat) 0 (wi (sm.I (0+(bAnd s (wi (s-1))).toNat) 0+b.I (0+(tzU s).toNat) 0))).I (0+s.toNat) 0 !=0) (R (S3 nb N M (wi (s+1)) b (sm.setI (0+s.toNat) 0 (wi (sm.I (0+(bAnd s (wi (s-1))).toNat) 0+b.I (0+(tzU s).toNat) 0))) (ou.setI (0+s.toNat) 0 (-1)))) (br (0<=s&&s<(M:Int)) (br (c1 nb N M s (tzU s) s) (R (S3 nb N M (wi (s+1)) b (sm.setI (0+s.toNat) 0 (wi (sm.I (0+(bAnd s (wi (s-1))).toNat) 0+b.I (0+(tzU s).toNat) 0))) (innR (sm.setI (0+s.toNat) 0 (wi (sm.I (0+(bAnd s (wi (s-1))).toNat) 0+b.I (0+(tzU s).toNat) 0))) s.toNat (tzU s).toNat (s.toNat+1) s.toNat ((ou.setI (0+s.toNat) 0 (-1)).setI (0+s.toNat) 0 1)))) none) none)) none) none) none) none) none) none) (K (.exit 0) (S3x M ou)):=by kernel_rfl
def in11(nb N M:Nat)(s low g:Int):Bool:=0<=s∧s<N∧N=M∧N=2^nb∧nb<=62∧0<=low∧low<=62∧g=s
def in3(nb N M:Nat):Bool:=N=2^nb∧N=M∧nb<=62
noncomputable def C1:Cx:=C1g in11 in3
theorem go11{f:St->(X->St->OD)->OD}{lv:List Tmp}{lx:Option (List Tmp)}{nb N s low:Nat}{b sm:Row}
  (hr:∀(g:Int)(ou:Row) R K,f (S11 nb N N s low g b sm ou) (rnd lv lx R K)=
   br (decide (g>0)) (br (decide ((low:Int)<0)) none (br (bAnd (bShr g low) 1==1) (br (g !=s) (br (decide (0<=g)&&decide (g<(N:Int))) (br (sm.I (0+g.toNat) 0==0) (br (decide (0<=(s:Int))&&decide ((s:Int)<(N:Int))) (br (decide (0<=bXor s g)&&decide (bXor s g<(N:Int))) (br (decide (0<=(s:Int))&&decide ((s:Int)<(N:Int)))
    (R (S11 nb N N s low (bAnd (wi (g-1)) s) b sm (ou.setI (0+(s:Int).toNat) 0 (if wi (1+ou.I (0+(bXor s g).toNat) 0)>ou.I (0+(s:Int).toNat) 0 then wi (1+ou.I (0+(bXor s g).toNat) 0)else ou.I (0+(s:Int).toNat) 0)))) none) none) none)
    (R (S11 nb N N s low (bAnd (wi (g-1)) s) b sm ou))) none) (R (S11 nb N N s low (bAnd (wi (g-1)) s) b sm ou))) (R (S11 nb N N s low (bAnd (wi (g-1)) s) b sm ou)))) (K (.exit 2) (S11x nb N N s b sm ou)))
  (hN:N=2^nb) (hb:nb<=62) (hs:s<N) (hl:low<=62) (K:X->St->OD):
  ∀(n fu g:Nat)(ou:Row),g&&&s=g->g<n->n<=fu->rounds lv lx f fu (S11 nb N N s low g b sm ou) K=K (.exit 2) (S11x nb N N s b sm (innR sm s low n g ou))
 |n+1,fu+1,g,ou,h0,h1,h2=>by
  have hgs:g<=s:=by have:g&&&s<=s:=Nat.and_le_right;omega
  have hNN:N<=4611686018427387904:=by
   have:2^nb<=2^62:=Nat.pow_le_pow_right (by decide) hb;omega
  rw[rnds1,hr];unfold innR;by_cases hg:g=0
  ·rw[AM hg,AB (show¬(g:Int)>0 by omega),br_false]
  ·rw[AL hg,A4 (show(g:Int)>0 by omega),br_true,AB (show¬(low:Int)<0 by omega),br_false,bit_iff g low (by omega) (by omega)];have hx:s^^^g<N:=by rw[hN];exact Nat.xor_lt_two_pow (by omega) (by omega)
   have hnext:bAnd (wi ((g:Int)-1)) (s:Int)=(((g-1)&&&s:Nat):Int):=by
    rw[wiN (by omega) (by omega),show(g:Int)-1=((g-1:Nat):Int) by omega];exact bAndN _ _ (by omega) (by omega)
   have hle:(g-1)&&&s<=g-1:=Nat.and_le_left;have hsub:((g-1)&&&s)&&&s=(g-1)&&&s:=by rw[Nat.and_assoc,Nat.and_self]
   have ih:=fun ou'=>go11 hr hN hb hs hl K n fu ((g-1)&&&s) ou' hsub (by omega) (by omega);rw[hnext,bXorN s g (by omega) (by omega),A9,A9,A9,AE,AE,AE];unfold inU;cases hbit:g.testBit low
   ·rw[br_false,AL (fun h=>by cases h.1)];exact ih ou
   ·rw[br_true];by_cases hgs':g=s
    ·rw[show((g:Int) !=(s:Int))=false by rw[hgs'];simp,br_false,AL (show¬(true=true∧g≠s∧sm.I g 0=0)from fun h=>h.2.1 hgs')];exact ih ou
    ·rw[show((g:Int) !=(s:Int))=true from bne_iff_ne.mpr (by omega),br_true,show(decide (0<=(g:Int))&&decide ((g:Int)<(N:Int)))=true by simp only[A2,A3];omega,br_true];by_cases hz:sm.I g 0=0
     ·rw[show(sm.I g 0==0)=true by simpa using hz,br_true,show(decide (0<=(s:Int))&&decide ((s:Int)<(N:Int)))=true by simp only[A2,A3];omega,br_true,
       show(decide (0<=((s^^^g:Nat):Int))&&decide (((s^^^g:Nat):Int)<(N:Int)))=true by simp only[A2,A3];omega,br_true,br_true,AM (show true=true∧g≠s∧sm.I g 0=0 from⟨rfl,hgs',hz⟩)]
      exact ih _
     ·rw[show(sm.I g 0==0)=false by simpa using hz,br_false,AL (show¬(true=true∧g≠s∧sm.I g 0=0)from fun h=>hz h.2.2)];exact ih ou
theorem loop11:LoopOk C1 (l11 in11):=⟨by kernel_rfl,fun q its k rr h=>by
 show rounds [0,3,4,5,6,7] (some [0,2,3,4,5]) (evCode C1 95 true (inl C1 (q+4)) (lbody C1.P 95 11)) 18446744073709551616 (bst (l11 in11).p its) k=some rr;change G11 in11 its k=some rr at h;unfold G11 at h;split at h
 ·rename_i nb N M s low g b sm ou;rcases br_some h with⟨h1,h2⟩|⟨_,h2⟩
  ·obtain⟨k1,k2,k3,k4,k5,k6,k7,k8⟩:=AD h1;obtain⟨s,rfl⟩:=Int.eq_ofNat_of_zero_le k1;obtain⟨low,rfl⟩:=Int.eq_ofNat_of_zero_le k6;subst k3;subst k8;rw[<-h2,A9,A9];have hp:2^nb<=2^62:=Nat.pow_le_pow_right (by decide) k5;exact go11 (fun g ou R K=>round11 in11 in3 R K q nb N N s low g b sm ou) k4 k5 (by omega) (by omega) k (s+1) 18446744073709551616 s ou (Nat.and_self s) (by omega) (by omega)
  ·cases h2
 ·cases h⟩
theorem ctz_lt(s nb:Nat)(h0:0<s)(h1:s<2^nb)(h2:nb<=62):ctzN s<nb:=by
 have hp:2^nb<=2^62:=Nat.pow_le_pow_right (by decide) h2;obtain⟨hlow,hk⟩:=Lib.lowest_bit 64 s (by omega) (by omega);have:s&&&(2^64-s)<=s:=Nat.and_le_left;rw[hlow]at this;unfold ctzN;exact(Nat.pow_lt_pow_iff_right (by decide)).1 (Nat.lt_of_le_of_lt this h1)
theorem tzUN(s:Nat)(h:s<9223372036854775808):tzU (s:Int)=(ctzN s:Int):=by
 unfold tzU ctzI ctzN;rw[show IntKind.u64.wrap (s:Int)=s from wrap_id (by simp[Lit.wf,IntKind.min,IntKind.max,IntKind.signed,IntKind.bits];omega),A9]
theorem go3{f:St->(X->St->OD)->OD}{lv:List Tmp}{lx:Option (List Tmp)}{nb N:Nat}{b:Row}
  (hr:∀(s:Int)(sm ou:Row) R K,f (S3 nb N N s b sm ou) (rnd lv lx R K)=
   br (decide (s<(N:Int))) (br (decide (0<IntKind.u64.wrap s)&&decide (IntKind.u64.wrap s<18446744073709551616)) (br (decide (0<=bAnd s (wi (s-1)))&&decide (bAnd s (wi (s-1))<(N:Int))) (br (decide (0<=tzU s)&&decide (tzU s<(nb:Int))) (br (decide (0<=s)&&decide (s<(N:Int))) (br (decide (0<=s)&&decide (s<(N:Int))) (br (decide (0<=s)&&decide (s<(N:Int)))
    (br ((sm.setI (0+s.toNat) 0 (wi (sm.I (0+(bAnd s (wi (s-1))).toNat) 0+b.I (0+(tzU s).toNat) 0))).I (0+s.toNat) 0 !=0)
     (R (S3 nb N N (wi (s+1)) b (sm.setI (0+s.toNat) 0 (wi (sm.I (0+(bAnd s (wi (s-1))).toNat) 0+b.I (0+(tzU s).toNat) 0))) (ou.setI (0+s.toNat) 0 (-1))))
     (br (decide (0<=s)&&decide (s<(N:Int))) (br (in11 nb N N s (tzU s) s)
      (R (S3 nb N N (wi (s+1)) b (sm.setI (0+s.toNat) 0 (wi (sm.I (0+(bAnd s (wi (s-1))).toNat) 0+b.I (0+(tzU s).toNat) 0))) (innR (sm.setI (0+s.toNat) 0 (wi (sm.I (0+(bAnd s (wi (s-1))).toNat) 0+b.I (0+(tzU s).toNat) 0))) s.toNat (tzU s).toNat (s.toNat+1) s.toNat ((ou.setI (0+s.toNat) 0 (-1)).setI (0+s.toNat) 0 1)))) none) none)) none) none) none) none) none) none) (K (.exit 0) (S3x N ou)))
  (hN:N=2^nb) (hb:nb<=62) (K:X->St->OD):
  ∀(m fu s:Nat)(sm ou:Row),s+m=N->0<s->m<fu->rounds lv lx f fu (S3 nb N N s b sm ou) K=K (.exit 0) (S3x N (mstR b m s sm ou))
 |0,fu+1,s,sm,ou,h0,h1,h2=>by
  rw[rnds1,hr,AB (show¬(s:Int)<(N:Int) by omega),br_false];rfl
 |m+1,fu+1,s,sm,ou,h0,h1,h2=>by
  have hNN:N<=4611686018427387904:=by
   have:2^nb<=2^62:=Nat.pow_le_pow_right (by decide) hb;omega
  have hctz:=ctz_lt s nb h1 (by omega) hb;have hw:IntKind.u64.wrap (s:Int)=s:=wrap_id (by simp[Lit.wf,IntKind.min,IntKind.max,IntKind.signed,IntKind.bits];omega);have hand:bAnd (s:Int) (wi ((s:Int)-1))=((s&&&(s-1):Nat):Int):=by
   rw[wiN (by omega) (by omega),show(s:Int)-1=((s-1:Nat):Int) by omega];exact bAndN _ _ (by omega) (by omega)
  have hle:s&&&(s-1)<=s-1:=Nat.and_le_right;have ih:=go3 hr hN hb K m fu (s+1) (smU b s sm) (ouU b s sm ou) (by omega) (by omega) (by omega);have hin:in11 nb N N s (ctzN s:Int) s=true:=A4 ⟨by omega,by omega,rfl,hN,hb,by omega,by omega,rfl⟩;have hs:(decide (0<=(s:Int))&&decide ((s:Int)<(N:Int)))=true:=by simp only[A2,A3];omega
  rw[rnds1,hr,hw,hand,tzUN s (by omega),hin,hs,wiN (n:=(s:Int)+1) (by omega) (by omega),show(s:Int)+1=((s+1:Nat):Int) by omega,A4 (show(s:Int)<(N:Int) by omega),
   show(decide (0<(s:Int))&&decide ((s:Int)<18446744073709551616))=true by simp only[A2,A3];omega,
   show(decide (0<=((s&&&(s-1):Nat):Int))&&decide (((s&&&(s-1):Nat):Int)<(N:Int)))=true by simp only[A2,A3];omega,
   show(decide (0<=(ctzN s:Int))&&decide ((ctzN s:Int)<(nb:Int)))=true by simp only[A2,A3];omega]
  rw[br_true,br_true,br_true,br_true,br_true,br_true,br_true,br_true,br_true,A9,A9,A9,AE,AE,AE];unfold mstR;rw[<-ih];unfold ouU;by_cases hz:(smU b s sm).I s 0=0
  ·rw[AL (fun h=>h hz),show((sm.setI s 0 (wi (sm.I (s&&&(s-1)) 0+b.I (ctzN s) 0))).I s 0 !=0)=false by rw[show(sm.setI s 0 (wi (sm.I (s&&&(s-1)) 0+b.I (ctzN s) 0))).I s 0=0 from hz];rfl,br_false];rfl
  ·rw[AM hz,show((sm.setI s 0 (wi (sm.I (s&&&(s-1)) 0+b.I (ctzN s) 0))).I s 0 !=0)=true from bne_iff_ne.mpr hz,br_true];rfl
theorem loop3:LoopOk C1 (l3 in3):=⟨by kernel_rfl,fun q its k rr h=>by
 show rounds [0,3,4,5] (some [2,4]) (evCode C1 95 true (inl C1 (q+4)) (lbody C1.P 95 3)) 18446744073709551616 (bst (l3 in3).p its) k=some rr;change G3 in3 its k=some rr at h;unfold G3 at h;split at h
 ·rename_i nb N M b sm ou;rcases br_some h with⟨h1,h2⟩|⟨_,h2⟩
  ·obtain⟨k1,k2,k3⟩:=AD h1;subst k2;rw[<-h2];have hp:2^nb<=2^62:=Nat.pow_le_pow_right (by decide) k3;have h0:0<2^nb:=Nat.two_pow_pos nb;exact go3 (fun s sm ou R K=>round3 in11 in3 R K q nb N N s b sm ou) k1 k3 k (N-1) 18446744073709551616 1 sm ou (by omega) (by omega) (by omega)
  ·cases h2
 ·cases h⟩
theorem C1_ok:CxW C1 Wt:=mkCx_okW enter mixed (fun p h=>by
 simp only[A8,A7,or_false]at h;rcases h with rfl;exact den_tz) (fun l h=>by
 simp only[A8,A7,or_false]at h;rcases h with rfl|rfl
 ·exact loop11
 ·exact loop3)
def nSz(b:Row):Nat:=(wi (1*2^min (b.n:Int).toNat 64)).toNat
theorem tmost(c1:Nat->Nat->Nat->Int->Int->Int->Bool)(c2:Nat->Nat->Nat->Bool)(b:Row):evF (C1g c1 c2) 6 95 [.slice ks1 b]=br (0<=wi (1*2^min (b.n:Int).toNat 64)&&wi (1*2^min (b.n:Int).toNat 64)<=wi (1*2^min (b.n:Int).toNat 64)&&wi (1*2^min (b.n:Int).toNat 64)<=100000000000) (br (0<=wi (1*2^min (b.n:Int).toNat 64)&&wi (1*2^min (b.n:Int).toNat 64)<=wi (1*2^min (b.n:Int).toNat 64)&&wi (1*2^min (b.n:Int).toNat 64)<=100000000000) (br (c2 b.n (nSz b) (nSz b)) (some [.slice ks1 (winOf (mstR b (nSz b-1) 1 (Row.zeros (nSz b)) (Row.zeros (nSz b))) 0 (nSz b))]) none) none) none:=by kernel_rfl
def mostR(b:Row):Row:=winOf (mstR b (2^b.n-1) 1 (Row.zeros (2^b.n)) (Row.zeros (2^b.n))) 0 (2^b.n)
def Fmost:FD
 |[.slice [.int .i64] b]=>some (b.n<=20,[.slice ks1 (mostR b)])
 |_=>none
theorem nSz_eq{b:Row}(h:b.n<=20):wi (1*2^min (b.n:Int).toNat 64)=((2^b.n:Nat):Int):=by
 have hp:2^b.n<=2^20:=Nat.pow_le_pow_right (by decide) h;rw[A9,Nat.min_eq_left (by omega),Int.one_mul,show(2:Int)^b.n=((2^b.n:Nat):Int) by rw[Int.natCast_pow];rfl];generalize 2^b.n=N at hp⊢;exact wiN (by omega) (by omega)
theorem den_most:DenW Tryz.prog Wt 95 Fmost:=evF_denW C1_ok fun ds rs h=>by
 unfold Fmost at h;split at h
 ·rename_i b;simp only[A5,A6,A3]at h;obtain⟨h0,rfl⟩:=h;refine(tmost in11 in3 b).trans ?_;have e:=nSz_eq h0;have hp:2^b.n<=2^20:=Nat.pow_le_pow_right (by decide) h0;unfold nSz;have hc:∀N:Nat,N<=2^20->(decide (0<=(N:Int))&&decide ((N:Int)<=(N:Int))&&decide ((N:Int)<=100000000000))=true:=fun N hN=>by simp only[A2,A3];omega
  rw[e,A9,hc _ hp,br_true,br_true,
   show in3 b.n (2^b.n) (2^b.n)=true from A4 ⟨rfl,rfl,by omega⟩,br_true]
  rfl
 ·cases h
end Go.Proofs.YtkcnkimndhgkgaaGreatDoor.Ld

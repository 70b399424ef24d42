/- A part of the proof of PrintTexts. No conditions. -/
import Derived.Test.YtnljjjghpgdmoaaGreatDoorXad
import Derived.Laws.BytesString
import Derived.StillTail
set_option linter.all false
namespace Go.Ev
open Go.RowKit
def D8:Value->Bool
 |.agg cs=>cs.toList.all Di
 |v=>Di v
def IAt(P:Program)(wb:World)(g:FuncId)(F:List Value->St->Option (Bool×Value×St)):Prop:=∀w0,Below wb.heap.size wb w0->∀(args:List Value)(σ:St)(v:Value)(σ1:St),F args σ=some (true,v,σ1)->∀(a:Act)(cs:List (Array Value))(w:World)(ρ:Map)(cargs:List Value),Rel w0 σ a cs w ρ->Vs ρ σ.mem.length args cargs->Calls P g ⟨cargs⟩ w fun e w'=>∃cv ρ1,e=.returned cv∧Rel w0 σ1 a cs w' ρ1∧V ρ1 σ1.mem.length v cv
def IAt.later{P:Program}{wb w:World}{g:FuncId}{F:List Value->St->Option (Bool×Value×St)}(h:IAt P wb g F)(hb:Below wb.heap.size wb w):IAt P w g F:=fun w0 hw=>h w0 (hb.trans (hw.mono hb.size))
structure CxAt(C:Cx)(wb:World):Prop where
 enter:∀(g:FuncId),C.ok.contains g=true->∀(args:Array Value)(w:World),(callFunc g args).run C.P w=.ok (.enter g args) w
 den:∀(g:FuncId)(F:FD),C.Γ g=some F->DenAt C.P wb g F
 mixed:C.P.follows .mixedOrders=true
 ext:∀(g:FuncId)(f:List Value->Option (Bool×List Value)),C.X g=some f->∀(args vs:List Value),f args=some (true,vs)->(∀v∈args,D8 v=true)∧(∀v∈vs,D8 v=true)∧∀w:World,(callFunc g ⟨args⟩).run C.P w=.ok (.value (tupV vs)) w
 inpl:∀(g:FuncId)(F:List Value->St->Option (Bool×Value×St)),C.I g=some F->IAt C.P wb g F
 loop:∀(f:FuncId)(b:Code),b∈EN C.P f->∀L,C.Λ f (Ap b)=some L->∀(d:Nat)(σ:St)(k:X->St->OD)(r:List D),L σ k=some r->
  rounds (C.lv f (Ap b)) (C.lx f (Ap b)) (AA C f true (inl C (d+4)) b) C.N σ k=some r
def LH(C:Cx)(W:World->Prop):Prop:=∀wb,W wb->CxAt C wb
def Be(C:Cx):Prop:=∀wb,CxAt C wb
def CxAt.later{C:Cx}{wb w:World}(h:CxAt C wb)(hb:Below wb.heap.size wb w):CxAt C w:=⟨h.enter,fun g F hF=>(h.den g F hF).later hb,h.mixed,h.ext,fun g F hF=>(h.inpl g F hF).later hb,h.loop⟩
section
variable{P:Program}{mem mem':M_}{ρ ρ':Map}{B:Nat}{w w':World}
def Rel.mono{w0:World}{σ:St}{a:Act}{cs:List (Array Value)}{w1:World}{ρ1:Map}{mem1:M_}(h:Rel w0 σ a cs w ρ)(hb:Below w0.heap.size w0 w1)(hm:MemR mem1 ρ1 w0.heap.size w1)(hN:σ.mem.length<=mem1.length)(hρ:∀id,id<σ.mem.length->Less ρ ρ1 id):
  Rel w0 {σ with mem:=mem1} a cs w1 ρ1:=⟨h.defers,h.tmps.mono hN hρ,h.saved.mono hN hρ,hb,hm⟩
def Ach{α:Type}{w0:World}{σ:St}{a:Act}{cs:List (Array Value)}(hR:Rel w0 σ a cs w ρ){o:Oper}{k:Value->Option α}{r:α}(h:JP P σ.mem (env σ.τ) o k=some r){K:Act->World->Prop}{Q:Exit->Act->World->Prop}
  (hK:∀v cv,k v=some r->Rel w0 (σ.put o.dst v) (a.put o.dst cv) cs w ρ->K (a.put o.dst cv) w):o.wp P a w K Q:=by
 obtain⟨v,cv,h1,h2,h3⟩:=KL hR.mem (fun x=>hR.tmps.env x) h;unfold Oper.wp;rw[h3 w (Below.refl _ _)];exact hK v cv h1 (hR.put _ h2)
def J5{α:Type}{N:Nat}{ea:Operand->Value}{a:Act}(hE:∀x,V ρ N (ea x) (a.eval x)){o:Oper}{t:TypeId}{parts:Array (Nat×Operand)}(ho:o.op=.build t parts){k:Value->Option α}{r:α}(h:NU P ea t parts k=some r):
  ∃v cv,k v=some r∧V ρ N v cv∧∀w':World,(execOp a.eval o).run P w'=.ok (.value cv) w':=by
 have hparts:∀(i:Nat)(p q:Nat×Value),(parts.toList.map fun p=>(p.1,ea p.2))[i]? =some p->((parts.map fun(i,x)=>(i,a.eval x)).toList)[i]? =some q->p.1=q.1∧V ρ N p.2 q.2:=by
  intro i p q hp hq;simp only[Array.toList_map,List.getElem?_map,Option.map_eq_some_iff]at hp hq;obtain⟨x,hx,rfl⟩:=hp;obtain⟨y,hy,rfl⟩:=hq;rw[hx]at hy;cases hy;exact⟨rfl,hE _⟩
 have hlen:(parts.toList.map fun p=>(p.1,ea p.2)).length=((parts.map fun(i,x)=>(i,a.eval x)).toList).length:=y_;have hzc:∀z:Value,atom z=true->∀(i:Nat)(x y:Value),z.cells[i]? =some x->z.cells[i]? =some y->V ρ N x y:=by
  intro z hz i x y hx hy;have hv:=V.atom (ρ:=ρ) (N:=N) hz;have hu:Iz z=false:=by cases z<;>first|rfl|simp[atom]at hz
  have h2:=(hv.cells hu).2;exact h2 i x y (by rw[<-Bi];simpa using hx) hy
 unfold NU at h;split at h
 ·rename_i z hz hall;split at h
  ·rename_i cells hat hbt;obtain⟨it,hi,hiz⟩:=Option.bind_eq_some_iff.1 hz;have hpq:∀(i:Nat)(p q:Nat×Value),(parts.toList.map fun p=>(p.1,ea p.2))[i]? =some p->((parts.map fun(i,x)=>(i,a.eval x)).toList)[i]? =some q->p.1=q.1∧Iz p.2=false∧V ρ N p.2 q.2:=fun i p q hp hq=>⟨(hparts i p q hp hq).1,by
     have:=List.all_eq_true.1 hall p (List.mem_of_getElem? hp);simpa using this,(hparts i p q hp hq).2⟩
   have key:∀place,Instr.fill place z.cells (parts.toList.map fun p=>(p.1,ea p.2))=some cells->∃out',Instr.fill place z.cells ((parts.map fun(i,x)=>(i,a.eval x)).toList)=some out'∧V ρ N (.agg cells) (.agg out'):=by
    intro place hfill;obtain⟨out',o1,o2,o3,o4⟩:=XB (ρ:=ρ) (N:=N) _ ((parts.map fun(i,x)=>(i,a.eval x)).toList) z.cells z.cells cells hfill hlen hpq rfl (hzc z hat);exact⟨out',o1,.agg o2 o4⟩
   have:∃out',P.built t ((parts.map fun(i,x)=>(i,a.eval x)).toList)=some out'∧V ρ N (.agg cells) (.agg out'):=by
    unfold Program.built at hbt⊢;rw[hi]at hbt⊢;split at hbt
    ·rename_i n el h1 hu;cases h1;rw[hiz]at hbt⊢;split at hbt
     ·rename_i z' s hz' hs;cases hz'
      first|exact key _ hbt|(rw[hs];exact key _ hbt)
     ·cases hbt
    ·rename_i fs h1 hu;cases h1;rw[hiz]at hbt⊢;split at hbt
     ·rename_i z' s hz' hs;cases hz'
      first|exact key _ hbt|(rw[hs];exact key _ hbt)
     ·cases hbt
    ·cases hbt
   obtain⟨out',o1,o2⟩:=this;refine⟨.agg cells,.agg out',h,o2,fun w'=>?_⟩;have:=run_build (P:=P) w' t _ out' o1;simp only[execOp,ho,Sem.run_bind,this,Result.andThen_ok,Sem.run_pure]
  ·cases h
 ·cases h
def FY{N:Nat}{ea:Operand->Value}{a:Act}(hE:∀x,V ρ N (ea x) (a.eval x)){o:Oper}{c:Call}(ho:o.op=.call c){g:FuncId}{args:List Value}(h:KR ea c=some (g,args)):
  ∃cargs,Vs ρ N args cargs∧∀w:World,(execOp a.eval o).run P w=(callFunc g ⟨cargs⟩).run P w:=by
 unfold KR at h;split at h
 ·rename_i f hc;split at h
  ·rename_i g' first captured hf
   cases h;have hfv:=hE f;rw[hf]at hfv;generalize hcf:a.eval f=cf at hfv;cases hfv with
   |@func _ _ first' _ captured' h1 h2 h3 h4=>
   refine⟨first'.toList++c.args.toList.map a.eval++captured'.toList,⟨by simp[h1,h3],fun i x y hx hy=>?_⟩,fun w=>?_⟩
   ·rw[List.append_assoc]at hx hy;rcases Jr hx with⟨p1,p2⟩|⟨p1,p2⟩
    ·rw[AQ (by simpa [<-h1]using p1)]at hy;exact h2 i x y (by simpa using p2) (by simpa using hy)
    ·rw[List.getElem?_append_right (by simpa [<-h1]using p1)]at hy;rw[show first'.toList.length=first.toList.length by simp[h1]]at hy
     rcases Jr p2 with⟨q1,q2⟩|⟨q1,q2⟩
     ·rw[AQ (by simpa using q1)]at hy;simp only[List.getElem?_map,Option.map_eq_some_iff]at q2 hy;obtain⟨u,hu,rfl⟩:=q2;obtain⟨v,hv,rfl⟩:=hy;rw[hu]at hv;cases hv;exact hE u
     ·rw[List.getElem?_append_right (by simpa using q1)]at hy;exact h4 _ x y (by simpa using q2) (by simpa using hy)
   ·have e1:(⟨first'.toList++c.args.toList.map a.eval++captured'.toList⟩:Array Value)=first'++c.args.map a.eval++captured':=by
     apply Array.ext';simp
    rw[e1];simp[execOp,ho,resolve,hc,hcf,Deferred.ofValue,invoke]
  ·cases h
 ·cases h
def MQ{v:Value}(h:Di v=true):D8 v=true:=by
 cases v<;>first|exact h|simp[Di]at h
def PG:∀{ds:List D}{xs:List Value}{m ys m'},KZ ds=some xs->BJ true ds m=some (ys,m')->ys=xs∧m'=m∧∀v∈xs,Di v=true
 |[],xs,m,ys,m',h,h'=>by
  simp[KZ]at h;simp[BJ]at h';subst h;exact⟨h'.1,h'.2.symm,fun v hv=>by simp at hv⟩
 |d::ds,xs,m,ys,m',h,h'=>by
  cases d with
  |v x=>
   simp only[KZ]at h;split at h
   ·rename_i xs' hxs;cases h;simp only[BJ,Bj]at h';split at h'
    ·rename_i y m1 h1;split at h1
     ·rename_i ha;cases h1;split at h'
      ·rename_i ys2 m2 h2;cases h';obtain⟨rfl,rfl,k3⟩:=PG hxs h2;exact⟨rfl,rfl,fun v hv=>(A8.1 hv).elim (fun e=>e▸ha) (k3 v)⟩
      ·cases h'
     ·cases h1
    ·cases h'
   ·cases h
  |slice ks r=>simp[KZ]at h
  |ptr ks r=>simp[KZ]at h
  |err b=>simp[KZ]at h
  |agg ds'=>simp[KZ]at h
def Jo:∀{rs:List D}{vs:List Value}{m us m'},nD rs=some vs->AU true rs m=some (us,m')->us=vs∧m'=m∧∀v∈vs,D8 v=true
 |[],vs,m,us,m',h,h'=>by
  simp[nD]at h;simp[AU]at h';subst h;exact⟨h'.1,h'.2.symm,fun v hv=>by simp at hv⟩
 |d::ds,vs,m,us,m',h,h'=>by
  simp only[nD]at h;split at h
  ·rename_i x xs hx hxs;cases h;cases d with
   |v x'=>
    simp[isV]at hx;subst hx;simp only[AU,fromD,Bj]at h';split at h'
    ·rename_i y m1 h1;split at h1
     ·rename_i ha;cases h1;split at h'
      ·rename_i ys m2 h2;cases h';obtain⟨rfl,rfl,k3⟩:=Jo hxs h2;exact⟨rfl,rfl,fun v hv=>(A8.1 hv).elim (fun e=>e▸MQ ha) (k3 v)⟩
      ·cases h'
     ·cases h1
    ·cases h'
   |slice ks r=>simp[isV]at hx
   |ptr ks r=>simp[isV]at hx
   |err b=>simp[isV]at hx
   |agg ds'=>
    simp only[isV]at hx;split at hx
    ·rename_i zs hzs;cases hx;simp only[AU,fromD]at h';split at h'
     ·rename_i y m1 h1;split at h1
      ·rename_i us1 m2 h2;cases h1;obtain⟨rfl,rfl,k1⟩:=PG hzs h2;split at h'
       ·rename_i ys m3 h3;cases h';obtain⟨rfl,rfl,k3⟩:=Jo hxs h3;exact⟨rfl,rfl,fun v hv=>(A8.1 hv).elim (fun e=>by rw[e];exact List.all_eq_true.2 k1) (k3 v)⟩
       ·cases h'
      ·cases h1
     ·cases h'
    ·cases hx
  ·cases h
def V.plain0{N:Nat}{x y:Value}(h:V ρ N x y)(hp:Di x=true):y=x:=h.atom1_eq hp
def V.plain1{N:Nat}{x y:Value}(h:V ρ N x y)(hp:D8 x=true):y=x:=by
 cases x with
 |agg xs=>
  cases h with
  |agg h1 h2=>
   rename_i ys
   congr 1
   apply Array.ext
   ·exact h1.symm
   ·intro i hi hi';have ha:Di xs[i]=true:=List.all_eq_true.1 hp _ y_;exact V.plain0 (h2 i _ _ (AJ hi') (AJ hi)) ha
 |_=>exact V.plain0 h hp
def V.reflP{N:Nat}{v:Value}(hp:D8 v=true):V ρ N v v:=by
 cases v with
 |agg cs=>
  refine .agg rfl fun i x y hx hy=>?_;rw[hx]at hy;cases hy;have hm:x∈cs.toList:=by
   rw[A1]at hx;obtain⟨hi,rfl⟩:=hx;simp
  exact V.refl1 (List.all_eq_true.1 hp _ hm)
 |_=>exact V.refl1 hp
def V.plain{N:Nat}{vs:List Value}{c:Value}(h:V ρ N (tupV vs) c)(hp:∀v∈vs,D8 v=true):c=tupV vs:=by
 obtain⟨cs,rfl,h1,h2⟩:=XD h
 congr 1
 apply List.ext_getElem?;intro i;by_cases hi:i<vs.length
 ·have hx:vs[i]? =some vs[i]:=AK hi;have hy:cs[i]? =some cs[i]:=AK o_;rw[hx,hy];have hv:=h2 i _ _ hx hy;have ha:=hp _ (List.getElem_mem hi);rw[V.plain1 hv ha]
 ·rw[List.getElem?_eq_none o_,List.getElem?_eq_none o_]
def V.ofPlain{N:Nat}{vs:List Value}(hp:∀v∈vs,D8 v=true):V ρ N (tupV vs) (tupV vs):=
 Vs.tupV ⟨rfl,fun i x c hx hc=>by rw[hx]at hc;cases hc;exact V.reflP (hp x (List.mem_of_getElem? hx))⟩
def Vs.plainEq{N:Nat}{xs cs:List Value}(h:Vs ρ N xs cs)(hp:∀v∈xs,D8 v=true):cs=xs:=by
 have hl:xs.length=cs.length:=h.1;apply List.ext_getElem?;intro i;by_cases hi:i<xs.length
 ·have hx:xs[i]? =some xs[i]:=AK hi;have hy:cs[i]? =some cs[i]:=AK o_;rw[hx,hy,V.plain1 (h.2 i _ _ hx hy) (hp _ (List.getElem_mem hi))]
 ·rw[List.getElem?_eq_none o_,List.getElem?_eq_none o_]
def Rk{α:Type}{C:Cx}{wb:World}(hC:CxAt C wb)(hwb:Below wb.heap.size wb w){calls:Bool}{σ:St}(hm:MemR σ.mem ρ B w){a:Act}(hE:∀x,V ρ σ.mem.length (env σ.τ x) (a.eval x)){o:Oper}{k:Value->Option α}{r:α}(h:evQ C calls σ.mem (env σ.τ) o k=some r):
  ∃v cv,k v=some r∧V ρ σ.mem.length v cv∧(∀w',Below w.heap.size w w'->o.quietAt C.P a (fun w2=>Below w'.heap.size w' w2) w' cv)∧(calls=false->∀w',Below w.heap.size w w'->(execOp a.eval o).run C.P w'=.ok (.value cv) w'):=by
 have pure:∀h:JP C.P σ.mem (env σ.τ) o k=some r,∃v cv,k v=some r∧V ρ σ.mem.length v cv∧(∀w',Below w.heap.size w w'->o.quietAt C.P a (fun w2=>Below w'.heap.size w' w2) w' cv)∧(calls=false->∀w',Below w.heap.size w w'->(execOp a.eval o).run C.P w'=.ok (.value cv) w'):=by
  intro h;obtain⟨v,cv,h1,h2,h3⟩:=KL hm hE h;refine⟨v,cv,h1,h2,fun w' hw'=>?_,fun _ w' hw'=>h3 w' hw'⟩;unfold Oper.quietAt;rw[h3 w' hw'];exact⟨rfl,rfl⟩
 unfold evQ at h;split at h
 ·rename_i t parts ho;obtain⟨v,cv,h1,h2,h3⟩:=J5 hE ho h;refine⟨v,cv,h1,h2,fun w' _=>?_,fun _ w' _=>h3 w'⟩;unfold Oper.quietAt;rw[h3 w'];exact⟨rfl,rfl⟩
 ·rename_i c ho;split at h
  ·rename_i g args hg;obtain⟨cargs,hv,hrun⟩:=FY (P:=C.P) hE ho hg;split at h
   ·rename_i f hX;split at h
    ·rename_i bb vs hf;cases bb with
     |false=>cases h
     |true=>
     obtain⟨p1,p2,p3⟩:=hC.ext g f hX args vs hf;rw[hv.plainEq p1]at hrun;refine⟨tupV vs,tupV vs,h,V.ofPlain p2,fun w' _=>?_,fun _ w' _=>?_⟩
     ·unfold Oper.quietAt;rw[hrun,p3];exact⟨rfl,rfl⟩
     ·rw[hrun,p3]
    ·cases h
   split at h
   ·rename_i F ds hok hF hds;split at h
    ·rename_i cnd rs hrs;split at h
     ·rename_i vs hvs;cases cnd with
      |false=>cases h
      |true=>
      change k (tupV vs)=some r at h;simp only[A2]at hok;have hpl:∀v∈vs,D8 v=true:=by
       intro v hv';have hcall:=(hC.den g F hF).call hwb hm hds hv hrs;obtain⟨e,w',fr,⟨cv,_,_,us,mem',ρ',h1,_⟩,_⟩:=hcall [];exact(Jo hvs h1).2.2 v hv'
      refine⟨tupV vs,tupV vs,h,V.ofPlain hpl,fun w' hw'=>?_,fun hcf=>by rw[hcf]at hok;cases hok.1⟩;unfold Oper.quietAt;rw[hrun,hC.enter g hok.2];refine⟨rfl,((hC.den g F hF).call (hwb.trans (hw'.mono hwb.size)) (hm.later hw') hds hv hrs).mono fun e w'' ⟨cv,he,hb,us,mem',ρ',h1,h2,h3⟩=>?_⟩;obtain⟨rfl,_,_⟩:=Jo hvs h1;rw[V.plain h3 hpl]at he;exact⟨he,hb⟩
     ·cases h
    ·cases h
   ·cases h
  ·exact pure h
 ·exact pure h
end
section
variable{P:Program}{mem mem':M_}{ρ ρ':Map}{B:Nat}{w w':World}
def Rel.reput{w0:World}{σ:St}{a:Act}{cs:List (Array Value)}(h:Rel w0 σ a cs w ρ){t:Tmp}{x y:Value}(hy:a.tmps[t]? =some y)(hxy:V ρ σ.mem.length x y):Rel w0 (σ.put (some t) x) a cs w ρ:=by
 have h1:=h.tmps.set t hxy;have h2:a.tmps.setIfInBounds t y=a.tmps:=by
  apply Array.ext_getElem?;intro i;rw[Array.getElem?_setIfInBounds];by_cases hi:t=i
  ·subst hi;have:=(A1.1 hy).1;simp[this,<-hy]
  ·simp[hi]
 rw[h2]at h1;exact⟨h.defers,h1,h.saved,h.below,h.mem⟩
def I9{α:Type}{w0:World}{σ:St}{a:Act}{cs:List (Array Value)}(hR:Rel w0 σ a cs w ρ){ops:Array Oper}{o:Oper}{yes no:St->Option α}{r:α}(h:Sv ops.toList σ o yes no=some r):
  (Region.wanted o (yielded ops a.tmps)=true∧∃σ',Rel w0 σ' a cs w ρ∧yes σ'=some r)∨(Region.wanted o (yielded ops a.tmps)=false∧∃σ',Rel w0 σ' a cs w ρ∧no σ'=some r):=by
 simp only[Sv,Jj,NW]at h;split at h
 ·rename_i hg;exact .inl ⟨by simp[Region.wanted,hg],σ,hR,h⟩
 ·rename_i j want hg;split at h
  ·rename_i t ht;have ht':(ops[j]?).bind (·.dst)=some t:=by simpa using ht
   have hlt:∀v,σ.τ.getD t unk=v->v≠unk->σ.τ[t]? =some v:=by
    intro v hv hne;rw[List.getD_eq_getElem?_getD]at hv;cases hx:σ.τ[t]? with
    |none=>rw[hx]at hv;exact absurd hv.symm hne
    |some x=>rw[hx]at hv;simp at hv;rw[hv]
   split at h
   ·rename_i b hb;have h1:=hlt _ hb y_;have hsz:t<a.tmps.size:=by rw[<-hR.tmps.1];exact(A0.1 h1).1
    have h2:a.tmps[t]? =some a.tmps[t]:=AJ hsz;have h3:=hR.tmps.2 t _ _ h1 h2;generalize a.tmps[t]=y at*
    cases h3;have hy:yielded ops a.tmps j=some b:=by simp[yielded,ht',h2]
    have hput:∀c:Bool,b=c->Rel w0 (σ.put (some t) (.bool c)) a cs w ρ:=fun c hc=>hR.reput h2 (by rw[hc];exact .bool);split at h
    ·cases b with
     |true=>exact .inl ⟨by simp[Region.wanted,hg,hy],_,hput true rfl,h⟩
     |false=>exact .inr ⟨by simp[Region.wanted,hg,hy],_,hput false rfl,h⟩
    ·cases b with
     |true=>exact .inr ⟨by simp[Region.wanted,hg,hy],_,hput true rfl,h⟩
     |false=>exact .inl ⟨by simp[Region.wanted,hg,hy],_,hput false rfl,h⟩
   ·rename_i hb;have h1:=hlt _ hb y_;have hsz:t<a.tmps.size:=by rw[<-hR.tmps.1];exact(A0.1 h1).1
    have h2:a.tmps[t]? =some a.tmps[t]:=AJ hsz;have h3:=hR.tmps.2 t _ _ h1 h2;generalize a.tmps[t]=y at*
    cases h3;have hy:yielded ops a.tmps j=none:=by simp[yielded,ht',h2]
    exact .inr ⟨by simp[Region.wanted,hg,hy],σ,hR,h⟩
   ·cases h
  ·cases h
def XU{α:Type}(C:Cx)(w0:World)(f:FuncId->List Value->St->(Value->St->Option α)->Option α):Prop:=∀(g:FuncId)(args:List Value)(σ:St)(k:Value->St->Option α)(r:α),f g args σ k=some r->∀(a:Act)(cs:List (Array Value))(w:World)(ρ:Map)(cargs:List Value),Rel w0 σ a cs w ρ->Vs ρ σ.mem.length args cargs->Calls C.P g ⟨cargs⟩ w fun e w'=>∃cv v σ1 ρ1,e=.returned cv∧Rel w0 σ1 a cs w' ρ1∧V ρ1 σ1.mem.length v cv∧k v σ1=some r
def Je{w0:World}{σ:St}{a:Act}{cs:List (Array Value)}(hR:Rel w0 σ a cs w ρ){blk:Blk}{ρ1:Map}{w1:World}(hb:Below w0.heap.size w0 w1)(hm:MemR (σ.mem++[some blk]) ρ1 w0.heap.size w1)(hρ:∀id,id<σ.mem.length->Less ρ ρ1 id)
  {d:Option Tmp} {v:Nat->Value} {cv:Value} (hv:V ρ1 (σ.mem.length+1) (v σ.mem.length) cv):Rel w0 (σ.new d v blk) (a.put d cv) cs w1 ρ1:=by
 have h1:=hR.mono hb hm y_ hρ;exact h1.put d (by simpa using hv)
set_option maxHeartbeats 1000000 in
def UW{α:Type}{C:Cx}{w0:World}(hC:CxAt C w0){inl:FuncId->List Value->St->(Value->St->Option α)->Option α}(hinl:XU C w0 inl){σ:St}{a:Act}{cs:List (Array Value)}(hR:Rel w0 σ a cs w ρ){o:Oper}{k:St->Option α}{r:α}
  (hby:(∃s d x,o.op=.convert s d x)->isBytes C.P o.op=true) (h:nN C σ o inl k=some r) {K:Act->World->Prop} {Q:Exit->Act->World->Prop} (hK:∀(σ1:St)(a1:Act)(w1:World)(ρ1:Map),Rel w0 σ1 a1 cs w1 ρ1->k σ1=some r->K a1 w1):o.wp C.P a w K Q:=by
 have hE:∀x,V ρ σ.mem.length (env σ.τ x) (a.eval x):=fun x=>hR.tmps.env x;have hB:w0.heap.size<=w.heap.size:=hR.below.size;unfold nN at h;simp only at h;split at h
 ·
  rename_i t ho;split at h
  ·rename_i z hz;split at h
   ·rename_i hat;obtain⟨it,hi,hiz⟩:=Option.bind_eq_some_iff.1 hz;have hrun:(execOp a.eval o).run C.P w=.ok (.value (.pointer (some ⟨w.heap.size,0,none⟩))) (w.alloc (.cells z.cells t)):=by
     simp[execOp,ho,Instr.alloc,zeroValue,run_typeInfo hi,hiz,newVar,newRow]
    have hu:Iz z=false:=by cases z<;>first|rfl|simp[atom]at hat
    have hv:=(V.atom (ρ:=ρ) (N:=σ.mem.length) hat).cells hu;obtain⟨L,hL1,hL2,hm⟩:=hR.mem.box hB (xs:=Bc z) (c:=z.cells) t hv.1.symm (fun i x y hx hy=>hv.2 i x y hx hy);unfold Oper.wp;rw[hrun];refine hK _ _ _ _ (Je hR (D9 hB hR.below _) hm (fun id hid=>.inl (Map.snoc_old hid)) ?_) h;have:=V.ptr (ρ:=Map.snoc ρ σ.mem.length L) (N:=σ.mem.length+1) (id:=σ.mem.length) (e:=0) (j:=0) (L:=L) o_ Map.snoc_new o_;rw[hL2]at this;exact this
   ·cases h
  ·cases h
 ·
  rename_i t x ho;split at h
  ·rename_i hu;have hrun:(execOp a.eval o).run C.P w=.ok (.value (.pointer (some ⟨w.heap.size,0,none⟩))) (w.alloc (.cells (a.eval x).cells t)):=by
    simp[execOp,ho,Instr.box,newVar,newRow]
   have hv:=(hE x).cells hu;obtain⟨L,hL1,hL2,hm⟩:=hR.mem.box hB (xs:=Bc (env σ.τ x)) (c:=(a.eval x).cells) t hv.1.symm (fun i x y hx hy=>hv.2 i x y hx hy);unfold Oper.wp;rw[hrun];refine hK _ _ _ _ (Je hR (D9 hB hR.below _) hm (fun id hid=>.inl (Map.snoc_old hid)) ?_) h;have:=V.ptr (ρ:=Map.snoc ρ σ.mem.length L) (N:=σ.mem.length+1) (id:=σ.mem.length) (e:=0) (j:=0) (L:=L) o_ Map.snoc_new o_;rw[hL2]at this;exact this
  ·cases h
 ·
  rename_i t parts ho;obtain⟨v,cv,h1,h2,h3⟩:=J5 (P:=C.P) hE ho h;unfold Oper.wp;rw[h3 w];exact hK _ _ _ _ (hR.put _ h2) h1
 ·
  rename_i t len parts ho;split at h
  ·rename_i el hu;split at h
   ·rename_i ei hei hall;split at h
    ·rename_i z hz;split at h
     ·rename_i hcond;obtain⟨c1,c2,c3⟩:=hcond;split at h
      ·rename_i cells hfill;obtain⟨z1,z2⟩:=DC c3;have hzs:z.cells.size=(kinds C.P 8 el).length:=by rw[<-z1,<-Bi];simp
       have hbase:∀(i:Nat)(x y:Value),((Array.range (len*ei.size)).map (z.cells[· %z.cells.size]!))[i]? =some x->((Array.range (len*ei.size)).map (z.cells[· %z.cells.size]!))[i]? =some y->V ρ σ.mem.length x y:=by
        intro i x y hx hy;rw[hx]at hy;cases hy;have hi:i<len*ei.size:=by have:=(A1.1 hx).1;simpa using this
        have hpos:0<ei.size:=by
         rcases Nat.eq_zero_or_pos ei.size with h0|h0
         ·rw[h0]at hi;omega
         ·exact h0
        have hm:i%z.cells.size<z.cells.size:=Nat.mod_lt _ o_;simp only[Array.getElem?_map,Array.getElem?_range,hi,if_true,Option.map_some,A5]at hx;rw[getElem!_pos z.cells _ hm]at hx;subst hx;exact Vh c3 (i%z.cells.size) _ (by rw[<-Bi];simp[hm])
       have hpq:∀(i:Nat)(p q:Nat×Value),(parts.toList.map fun p=>(p.1,env σ.τ p.2))[i]? =some p->((parts.map fun(i,x)=>(i,a.eval x)).toList)[i]? =some q->p.1=q.1∧Iz p.2=false∧V ρ σ.mem.length p.2 q.2:=by
        intro i p q hp hq;have hun:=List.all_eq_true.1 hall p (List.mem_of_getElem? hp);simp only[Array.toList_map,List.getElem?_map,Option.map_eq_some_iff]at hp hq;obtain⟨x,hx,rfl⟩:=hp;obtain⟨y,hy,rfl⟩:=hq;rw[hx]at hy;cases hy;exact⟨rfl,by simpa using hun,hE _⟩
       obtain⟨out',o1,o2,o3,o4⟩:=XB (ρ:=ρ) (N:=σ.mem.length) _ ((parts.map fun(i,x)=>(i,a.eval x)).toList) _ ((Array.range (len*ei.size)).map (z.cells[· %z.cells.size]!)) cells hfill y_ hpq rfl hbase;have hcs:cells.size=len*ei.size:=by rw[o3];simp
       have hrun:(execOp a.eval o).run C.P w=.ok (.value (.slice (some ⟨w.heap.size,0,none⟩) len len)) (w.alloc (.cells out' el)):=by
        have h24:¬(len*ei.size>2^24):=o_;rcases Nat.eq_zero_or_pos (len*ei.size)with h0|h0
        ·have e0:∀f:Nat->Value,(Array.range (len*ei.size)).map f= #[]:=by intro f;rw[h0];simp[Array.range_zero']
         rw[e0]at o1;simp only[execOp,ho];simp only[Instr.buildSlice,Sem.run_bind,run_underlying hu,run_sizeOf hei,Result.andThen_ok,AL h24,AM h0,Sem.run_pure,e0,o1,newRow,newObj];rfl
        ·have hne:¬(len*ei.size=0):=o_;simp only[execOp,ho];simp only[Instr.buildSlice,Sem.run_bind,run_underlying hu,run_sizeOf hei,Result.andThen_ok,AL h24,AL hne,zeroValue,run_typeInfo hei,hz,Sem.run_pure,o1,newRow,newObj];rfl
       split at h
       ·
        rename_i hlen0;have hl0:len=0:=AF hlen0;have hz0:out'.size=0:=by rw[<-o2,hcs,hl0,Nat.zero_mul]
        obtain⟨L,hL1,hL2,hm⟩:=hR.mem.box hB (xs:=[]) (c:=out') el hz0 (fun i x y hx hy=>by simp at hx);unfold Oper.wp;rw[hrun];refine hK _ _ _ _ (Je hR (D9 hB hR.below _) hm (fun id hid=>.inl (Map.snoc_old hid)) ?_) h;rw[hl0];exact .sliceNil
       split at h
       ·
        rename_i rr mem1 hsl hlit;obtain⟨sub,k1,k3,k5,k6,k7⟩:=Wy hR.mem (ks:=kinds C.P 8 el) (n:=len) (cells:=cells.toList) (ccs:=out'.toList) (by simp[hcs,c2]) (by simp[o2]) (fun i x c hx hc=>o4 i x c (by simpa using hx) (by simpa using hc)) mem1 rr hlit;have hrn:rr.n=len:=k1;have hcell:∀(e j:Nat)(kk:CK),e<rr.n->(kinds C.P 8 el)[j]? =some kk->out'[e*(kinds C.P 8 el).length+j]? =some (out'.getD (e*(kinds C.P 8 el).length+j) undef):=by
         intro e j kk he hk;have hj:j<(kinds C.P 8 el).length:=(A0.1 hk).1;have hlt:e*(kinds C.P 8 el).length+j<out'.size:=by
          have:(e+1)*(kinds C.P 8 el).length<=len*(kinds C.P 8 el).length:=AH _ o_;rw[Nat.add_mul,Nat.one_mul]at this;rw[<-o2,hcs,c2];omega
         rw[AJ hlt,Array.getD_eq_getD_getElem?,AJ hlt,Option.getD_some]
        obtain⟨ρ',n1,n2,n3⟩:=hR.mem.newDeep hB k3 (ks:=kinds C.P 8 el) (r:=rr) (c:=out') (T:=el) (tot:=len) (sub:=sub) (by rw[<-o2,hcs,c2];exact AC _) o_ (fun e j=>out'.getD (e*(kinds C.P 8 el).length+j) undef) hcell
         (fun e j kk he hk=>k5 e j kk _ o_ hk (by simpa using hcell e j kk he hk)) (fun e j b hb=>by
          obtain⟨q1,q2,id,q3,q4⟩:=k6 e j b hb;exact⟨o_,q2,id,q3,q4⟩) k7
        unfold Oper.wp;rw[hrun];have hR1:Rel w0 {σ with mem:=mem1++[some (.deep (kinds C.P 8 el) rr none)]} a cs (w.alloc (.cells out' el)) ρ':=hR.mono (D9 hB hR.below _) n1 (by simp[k3.1]) n2;have h9:=hR1.put o.dst (x:=sl0 len σ.mem.length) (y:=.slice (some ⟨w.heap.size,0,none⟩) len len) (by
         rw[hrn]at n3;exact V.newDeep n3 (by simp[k3.1]) (AC _) (AC _))
        refine hK _ _ _ ρ' ?_ h;simpa [St.new,k3.1]using h9
       split at h
       ·rename_i rr mem1 hlit;obtain⟨ρ1,k1,k2,k3,_,k5⟩:=KX (w:=w) (ks:=kinds C.P 8 el) (n:=len) (cells:=cells.toList) (ccs:=out'.toList) (by simp[hcs,c2]) (by simp[o2]) len σ.mem mem1 ρ _ rr hlit (AC _) hR.mem (fun i x c hx hc=>o4 i x c (by simpa using hx) (by simpa using hc));have hrn:rr.n=len:=k3;have hm3:=MemR.newRow (w:=w) (w1:=w) k2 hB (ks:=kinds C.P 8 el) (r:=rr) (c:=out') (T:=el) (tot:=len) (Below.refl _ _) rfl (by rw[<-o2,hcs,c2];exact AC _) o_ (fun e j=>out'.getD (e*(kinds C.P 8 el).length+j) undef)
         (fun e j kk he hk=>by
          have hj:j<(kinds C.P 8 el).length:=(A0.1 hk).1;have hlt:e*(kinds C.P 8 el).length+j<out'.size:=by
           have:(e+1)*(kinds C.P 8 el).length<=len*(kinds C.P 8 el).length:=AH _ o_;rw[Nat.add_mul,Nat.one_mul]at this;rw[<-o2,hcs,c2];omega
          rw[AJ hlt,Array.getD_eq_getD_getElem?,AJ hlt,Option.getD_some])
         (fun e j kk he hk=>by
          have hj:j<(kinds C.P 8 el).length:=(A0.1 hk).1;have hlt:e*(kinds C.P 8 el).length+j<out'.size:=by
           have:(e+1)*(kinds C.P 8 el).length<=len*(kinds C.P 8 el).length:=AH _ o_;rw[Nat.add_mul,Nat.one_mul]at this;rw[<-o2,hcs,c2];omega
          refine k5 e j kk _ o_ o_ hk ?_;rw[Array.getD_eq_getD_getElem?,AJ hlt,Option.getD_some];simp[hlt])
        have hR1:=hR.mono hR.below k2 (by rw[k1.len];exact AC _) (fun id _=>k1.less id);unfold Oper.wp;rw[hrun];refine hK _ _ _ _ (Je hR1 (D9 hB hR.below _) hm3 (fun id hid=>.inl (Map.snoc_old hid)) ?_) h;rw[hrn];exact V.newRow y_ (AC _) (AC _)
       ·cases h
      ·cases h
     ·cases h
    ·cases h
   ·cases h
  ·cases h
 ·
  rename_i t x y ho;split at h
  ·rename_i mem1 hs;obtain⟨w',ρ1,k1,k2,k3,k4,k5⟩:=SV hs hR.mem (hE x) (hE y);have hrun:(execOp a.eval o).run C.P w=.ok .skip w':=by
    simp[execOp,ho,k1]
   unfold Oper.wp;rw[hrun];have hR1:=hR.mono (k5 w0 hR.below) k2 o_ (fun id _=>k4 id);exact hK _ _ _ _ (hR1.put _ (.tuple rfl fun i x y hx _=>by simp at hx)) h
  ·split at h
   ·rename_i cnd mem1 hs;obtain⟨hc,h⟩:=BZ h;subst hc;obtain⟨w',ρ1,k1,k2,k3,k4,k5⟩:=SA hs hR.mem (hE x) (hE y);have hrun:(execOp a.eval o).run C.P w=.ok .skip w':=by
     simp[execOp,ho,k1]
    unfold Oper.wp;rw[hrun];have hR1:=hR.mono (k5 w0 hR.below) k2 o_ k4;exact hK _ _ _ _ (hR1.put _ (.tuple rfl fun i x y hx _=>by simp at hx)) h
   ·cases h
 ·
  rename_i t l c ho;have hl:=hE l;have hc:=hE c;split at h
  ·rename_i el kl l' kc c' hu hl' hc';rw[hl']at hl;rw[hc']at hc;split at h
   ·rename_i ei hei;split at h
    ·rename_i z hz;split at h
     ·rename_i hcond;split at h
      ·rename_i hdk;rw[A2]at hdk;obtain⟨hb,h⟩:=BZ h;simp only[A2,A3]at hb;generalize hcl:a.eval l=cl at hl;generalize hcc:a.eval c=cc at hc;cases hl;cases hc;obtain⟨ρ',cv,w',k1,k2,k3,k4,k5⟩:=PL (P:=C.P) hR.mem hB hu hei hz hcond.1 hcond.2.1 hcond.2.2 hdk.2 kl kc hb.1.1 hb.1.2 hb.2;have hrun:(execOp a.eval o).run C.P w=.ok (.value cv) w':=by
        simp[execOp,ho,hcl,hcc,k1]
       unfold Oper.wp;rw[hrun];exact hK _ _ _ _ (Je hR (k5 w0 hB hR.below) k2 k3 k4) h
      obtain⟨hb,h⟩:=BZ h;simp only[A2,A3]at hb;generalize hcl:a.eval l=cl at hl;generalize hcc:a.eval c=cc at hc;cases hl;cases hc;obtain⟨L,cv,w',k1,k2,k3,k4⟩:=NG (P:=C.P) hR.mem hB hu hei hz hcond.1 hcond.2.1 hcond.2.2 kl kc hb.1.1 hb.1.2 hb.2;have hrun:(execOp a.eval o).run C.P w=.ok (.value cv) w':=by
       simp[execOp,ho,hcl,hcc,k1]
      unfold Oper.wp;rw[hrun];exact hK _ _ _ _ (Je hR (k4 w0 hB hR.below) k2 (fun id hid=>.inl (Map.snoc_old hid)) k3) h
     ·cases h
    ·cases h
   ·cases h
  ·cases h
 ·
  rename_i c ho;split at h
  ·rename_i hcal;split at h
   ·rename_i st xt s x hat has;have ea:c.argTypes= #[st,xt]:=by rw[<-Array.toArray_toList (xs:=c.argTypes),hat]
    obtain⟨p,q,hpq⟩:∃p q,c.args.toList=[p,q]:=by
     have hlen:c.args.toList.length=2:=by have:=congrArg List.length has;simpa using this
     match hc:c.args.toList,hlen with
     |[p,q],_=>exact⟨p,q,rfl⟩
    rw[hpq]at has;simp only[List.map_cons,List.map_nil,List.cons.injEq,and_true]at has;have eargs:c.args= #[p,q]:=by rw[<-Array.toArray_toList (xs:=c.args),hpq]
    split at h
    ·rename_i el hu hsk;split at h
     ·rename_i ei hei;split at h
      ·rename_i z hz;split at h
       ·rename_i hcond;split at h
        ·rename_i ido rr n r2 hd hsrc;obtain⟨hb,h⟩:=BZ h;simp only[A3]at hb;obtain⟨ρt,t1,t2,t3⟩:=Qg hR.mem s;have hRt:Rel w0 {σ with mem:=DN σ.mem s} a cs w ρt:=hR.mono hR.below t1 o_ t3;have hs:=hRt.tmps.env p;have hx:=hRt.tmps.env q;rw[show env ({σ with mem:=DN σ.mem s}:St).τ p=s from has.1]at hs;rw[show env ({σ with mem:=DN σ.mem s}:St).τ q=x from has.2]at hx;obtain⟨consts,hbrun⟩:=EX (P:=C.P) a o c .append ho hcal;obtain⟨ρ1,cv,w',k1,k2,k3,k4,k5⟩:=SK (P:=C.P) (ty:=o.type) t1 hB hu hei hz hcond.1 hcond.2.1 hcond.2.2 hd hsrc hsk hb hs hx;have hrun:(execOp a.eval o).run C.P w=.ok (.value cv) w':=by
          rw[hbrun,eargs,ea];simp[builtin,k1]
         unfold Oper.wp;rw[hrun];cases ido with
         |none=>
          have hR1:Rel w0 {σ with mem:=DN σ.mem s++[some (.row (kinds C.P 8 el) true (rr.app r2))]} a cs w' ρ1:=hRt.mono (k5 w0 rfl hB hR.below) k2 y_ k3;exact hK _ _ _ ρ1 (hR1.put o.dst (by simpa using k4)) h
         |some i=>
          have hR1:Rel w0 {σ with mem:=(DN σ.mem s).set i none++[some (.row (kinds C.P 8 el) true (rr.app r2))]} a cs w' ρ1:=hRt.mono (k5 w0 rfl hB hR.below) k2 y_ k3;have h9:=hR1.put o.dst (x:=sl0 (n+r2.n) (DN σ.mem s).length) (y:=cv) (by simpa using k4);refine hK _ _ _ ρ1 ?_ h;simpa [St.new]using h9
        ·split at h
         ·rename_i mem1 rr n hd;obtain⟨hb,h⟩:=BZ h;simp only[A3]at hb;have hs:=hR.tmps.env p;have hx:=hR.tmps.env q;rw[show env σ.τ p=s from has.1]at hs;rw[show env σ.τ q=x from has.2]at hx;obtain⟨consts,hbrun⟩:=EX (P:=C.P) a o c .append ho hcal;obtain⟨ρ1,cv,w',k1,k2,k3,k4,k5,k6⟩:=Qm (P:=C.P) (ty:=o.type) hR.mem hB hu hei hz hcond.1 hcond.2.1 hcond.2.2 hd hsk hb hs hx;have hrun:(execOp a.eval o).run C.P w=.ok (.value cv) w':=by
           rw[hbrun,eargs,ea];simp[builtin,k1]
          unfold Oper.wp;rw[hrun];have hR1:Rel w0 {σ with mem:=mem1++[some (.deep (kinds C.P 8 el) rr none)]} a cs w' ρ1:=hR.mono (k6 w0 rfl hB hR.below) k2 (by simp[k3]) k4;have h9:=hR1.put o.dst (x:=sl0 n σ.mem.length) (y:=cv) (by simpa [k3]using k5);refine hK _ _ _ ρ1 ?_ h;simpa [St.new,k3]using h9
         ·cases h
       ·cases h
      ·cases h
     ·cases h
    ·cases h
   ·cases h
  ·cases h
  ·split at h
   ·rename_i g args hg;split at h
    ·rename_i f hX;obtain⟨cargs,hv,hrun⟩:=FY (P:=C.P) hE ho hg;split at h
     ·rename_i bb vs hf;cases bb with
      |false=>cases h
      |true=>
      obtain⟨p1,p2,p3⟩:=hC.ext g f hX args vs hf;rw[hv.plainEq p1]at hrun;unfold Oper.wp;rw[hrun,p3];exact hK _ _ _ _ (hR.put o.dst (V.ofPlain p2)) h
     ·cases h
    split at h
    ·rename_i hok;obtain⟨cargs,hv,hrun⟩:=FY (P:=C.P) hE ho hg;split at h
     ·rename_i F hF;split at h
      ·rename_i ds hds;split at h
       ·rename_i cnd rs hrs;split at h
        ·rename_i us mem1 hfrom;cases cnd with
         |false=>cases h
         |true=>
         change k _=some r at h;unfold Oper.wp;rw[hrun,hC.enter g hok];show Calls _ _ _ _ _;refine((hC.den g F hF).callP hR.below hR.mem hds hv hrs).mono fun e w' ⟨cv,he,hb,us',mem',ρ',h1,h2,h3⟩=>?_;subst he;obtain⟨us2,ρ2,m1,m2,m3,m4⟩:=Su hR.mem hb hB h1 h2 h3;rw[hfrom]at m1;cases m1;have hR1:=hR.mono (hR.below.trans (hb.mono hB)) m2 y_ (fun id hid=>.inl (m3 id hid));exact hK _ _ _ _ (hR1.put o.dst m4) h
        ·cases h
       ·cases h
      ·cases h
     ·split at h
      ·rename_i F hF;split at h
       ·rename_i b v σ1 hFa;cases b with
        |false=>cases h
        |true=>
        unfold Oper.wp;rw[hrun,hC.enter g hok];show Calls _ _ _ _ _;refine(hC.inpl g F hF w0 (Below.refl _ _) args σ v σ1 hFa a cs w ρ cargs hR hv).mono fun e w' ⟨cv,ρ1,he,h1,h2⟩=>?_;subst he;exact hK _ _ _ _ (h1.put o.dst h2) h
       ·cases h
      ·unfold Oper.wp;rw[hrun,hC.enter g hok];show Calls _ _ _ _ _;refine(hinl g args σ _ r h a cs w ρ cargs hR hv).mono fun e w' ⟨cv,v,σ1,ρ1,he,h1,h2,h3⟩=>?_;subst he;exact hK _ _ _ _ (h1.put o.dst h2) h3
    ·cases h
   ·cases h
 ·cases h
end
section
variable{P:Program}{mem mem':M_}{ρ ρ':Map}{B:Nat}{w w':World}
def H7:∀{l:List Nat}{id i:Nat},DI l id=some i->l[i]? =some id
 |[],id,i,h=>by simp[DI]at h
 |x::xs,id,i,h=>by
  simp only[DI]at h;split at h
  ·rename_i hb;cases h;simp[AF hb]
  ·split at h
   ·rename_i j hj;cases h;simpa using H7 hj
   ·cases h
def KI(ρ:Map)(l:List Nat):Map:=fun i=>match l[i]? with|some id=>ρ id|none=>none
def FT{l:List Nat}{id i:Nat}(h:DI l id=some i):i<l.length∧KI ρ l i=ρ id:=by
 have h1:=H7 h;exact⟨(A0.1 h1).1,by simp[KI,h1]⟩
def DU{N:Nat}{l:List Nat}{x y:Value}(h:V ρ N x y):V (KI ρ l) l.length (Lc l x) y:=by
 cases h with
 |unk=>exact .unk
 |bool=>exact .bool
 |int=>exact .int
 |str=>exact .str
 |ptrNil=>exact .ptrNil
 |nilFunc=>exact .nilFunc
 |nilIface=>exact .nilIface
 |iface h1 h2=>exact .iface h1 h2
 |sliceNil=>exact .sliceNil
 |mapDead h1 h2=>
  simp only[Lc];split
  ·rename_i i hi;obtain⟨g1,g2⟩:=FT (ρ:=ρ) hi;exact .mapDead g1 (g2.trans h2)
  ·exact .unk
 |map h1 h2=>
  simp only[Lc];split
  ·rename_i i hi;obtain⟨g1,g2⟩:=FT (ρ:=ρ) hi;exact .map g1 (g2.trans h2)
  ·exact .unk
 |ptrDead h1 h2=>
  simp only[Lc];split
  ·rename_i i hi;obtain⟨g1,g2⟩:=FT (ρ:=ρ) hi;exact .ptrDead g1 (g2.trans h2)
  ·exact .unk
 |sliceDead h1 h2=>
  simp only[Lc];split
  ·rename_i i hi;obtain⟨g1,g2⟩:=FT (ρ:=ρ) hi;exact .sliceDead g1 (g2.trans h2)
  ·exact .unk
 |ptr h1 h2 h3=>
  simp only[Lc];split
  ·rename_i i hi;obtain⟨g1,g2⟩:=FT (ρ:=ρ) hi;exact .ptr g1 (g2.trans h2) h3
  ·exact .unk
 |slice h1 h2 h3 h4 h5 h6=>
  simp only[Lc];split
  ·rename_i i hi;obtain⟨g1,g2⟩:=FT (ρ:=ρ) hi;exact .slice g1 (g2.trans h2) h3 h4 h5 h6
  ·exact .unk
 |agg h1 h2=>exact .unk
 |tuple h1 h2=>exact .unk
 |@func fn xs ys us vs h1 h2 h3 h4=>
  obtain⟨xs⟩:=xs;obtain⟨us⟩:=us
  match xs,us with
  |[],[]=>
   have e1:ys= #[]:=by simpa using h1.symm
   have e2:vs= #[]:=by simpa using h3.symm
   subst e1;subst e2;exact .func rfl (fun i x y hx _=>by simp at hx) rfl (fun i x y hx _=>by simp at hx)
  |x::xs,us=>simp only[Lc];exact .unk
  |[],u::us=>simp only[Lc];exact .unk
def RP{N:Nat}{l:List Nat}{xs ys:Array Value}(h:∀(i:Nat)(x y:Value),xs[i]? =some x->ys[i]? =some y->V ρ N x y):∀(i:Nat)(x y:Value),((⟨xs.toList.map (Lc l)⟩:Array Value))[i]? =some x->ys[i]? =some y->V (KI ρ l) l.length x y:=by
 intro i x y hx hy;simp only[List.getElem?_toArray,List.getElem?_map,Option.map_eq_some_iff]at hx;obtain⟨u,hu,rfl⟩:=hx;exact DU (h i u y (by simpa using hu) hy)
def Afp{N:Nat}{l:List Nat}{x y:Value}(h:V ρ N x y):V (KI ρ l) l.length (ren l x) y:=by
 cases h with
 |agg h1 h2=>exact .agg (by simpa using h1) (RP h2)
 |func h1 h2 h3 h4=>exact .func (by simpa using h1) (RP h2) (by simpa using h3) (RP h4)
 |unk=>exact DU (N:=N) .unk
 |bool=>exact DU (N:=N) .bool
 |int=>exact DU (N:=N) .int
 |str=>exact DU (N:=N) .str
 |ptrNil=>exact DU (N:=N) .ptrNil
 |nilFunc=>exact DU (N:=N) .nilFunc
 |nilIface=>exact DU (N:=N) .nilIface
 |iface h1 h2=>exact .iface h1 h2
 |sliceNil=>exact DU (N:=N) .sliceNil
 |mapDead h1 h2=>exact DU (N:=N) (.mapDead h1 h2)
 |map h1 h2=>exact DU (N:=N) (.map h1 h2)
 |ptrDead h1 h2=>exact DU (N:=N) (.ptrDead h1 h2)
 |sliceDead h1 h2=>exact DU (N:=N) (.sliceDead h1 h2)
 |ptr h1 h2 h3=>exact DU (N:=N) (.ptr h1 h2 h3)
 |slice h1 h2 h3 h4 h5 h6=>exact DU (N:=N) (.slice h1 h2 h3 h4 h5 h6)
 |tuple h1 h2=>exact DU (N:=N) (.tuple h1 h2)
def FC:∀(xs:List Nat){l:List Nat},l.Nodup->(Ie l xs).Nodup
 |[],l,h=>h
 |x::xs,l,h=>by
  simp only[Ie];split
  ·exact FC xs h
  ·rename_i hc;refine FC xs ?_;rw[List.nodup_append];refine⟨h,y_,fun a ha b hb=>?_⟩;simp at hb;subst hb;rintro rfl;have:l.contains a=true:=by simpa using ha
   rw[this]at hc;cases hc
def MI:∀(n:Nat){l:List Nat},l.Nodup->(reach mem n l).Nodup
 |0,_,h=>h
 |n+1,_,h=>MI n (FC _ h)
def FQ(mem:M_)(l:List Nat):M_:=l.map fun id=>(match mem[id]? with|some (some b)=>Qs l b|_=>none)
def OW{l:List Nat}{i:Nat}{b:Blk}(h:(FQ mem l)[i]? =some (some b)):∃id c,l[i]? =some id∧mem[id]? =some (some c)∧Qs l c=some b:=by
 simp only[FQ,List.getElem?_map,Option.map_eq_some_iff]at h;obtain⟨id,h1,h2⟩:=h;split at h2
 ·rename_i c hc;exact⟨id,c,h1,hc,h2⟩
 ·cases h2
def mO{l:List Nat}{b c:Blk}(h:Qs l b=some c):c.own=b.own:=by
 cases b with
 |bor p e j ks r=>
  simp only[Qs]at h;split at h
  ·cases h;rfl
  ·cases h
 |_=>cases h;rfl
def gone(l:List Nat)(b:Option Blk):Option Blk:=match b with
 |some (.bor p e j ks r)=>(match DI l p with|some _=>some (.bor p e j ks r)|none=>none)
 |b=>b
def Vd{l:List Nat}{i:Nat}{b:Blk}(h:(mem.map (gone l))[i]? =some (some b)):mem[i]? =some (some b)∧∀p e j ks r,b=.bor p e j ks r->∃q,DI l p=some q:=by
 rw[List.getElem?_map]at h;cases hm:mem[i]? with
 |none=>rw[hm]at h;cases h
 |some o=>
  rw[hm,Option.map_some]at h;simp only[A5]at h;unfold gone at h;split at h
  ·rename_i p e j ks r;split at h
   ·rename_i q hq;cases h;exact⟨rfl,fun p' e' j' ks' r' he=>by cases he;exact⟨q,hq⟩⟩
   ·cases h
  ·rename_i hne;subst h;exact⟨rfl,fun p e j ks r he=>absurd (by rw[he]) (hne p e j ks r)⟩
def qI{l:List Nat}:FQ (mem.map (gone l)) l=FQ mem l:=by
 unfold FQ;refine List.map_congr_left fun id _=>?_;rw[List.getElem?_map];cases hm:mem[id]? with
 |none=>rfl
 |some o=>
  cases o with
  |none=>rfl
  |some b=>
   cases b with
   |bor p e j ks r=>
    simp only[Option.map_some,gone];cases hf:DI l p with
    |none=>simp only[Qs,hf]
    |some q=>simp only[Qs,hf]
   |_=>rfl
def MemR.gone(h:MemR mem ρ B w)(l:List Nat):∃ρ',(∀i,Less ρ ρ' i)∧MemR (mem.map (Ev.gone l)) ρ' B w:=by
 obtain⟨ρ',h1,h2,_⟩:=h.drop (mem':=mem.map (Ev.gone l)) y_ (fun i b hi=>by
  obtain⟨g1,g2⟩:=Vd hi;refine⟨g1,fun p e j ks r hb=>?_⟩;subst hb;obtain⟨L,_,hr⟩:=h.blk i _ g1;obtain⟨_,_,_,_,_,Lp,kps,rp,hh,a,q1,_⟩:=hr;rw[List.getElem?_map,q1];rfl)
 exact⟨ρ',h1,h2⟩
def MemR.ren(h:MemR mem ρ B w){l:List Nat}(hl:l.Nodup)(hbor:∀(id p e j:Nat)(ks:List CK)(r:Row),mem[id]? =some (some (Blk.bor p e j ks r))->∃q,DI l p=some q):MemR (FQ mem l) (KI ρ l) B w:=by
 have hown:∀(i b:Nat),Az (FQ mem l) (KI ρ l) i b->∃id,l[i]? =some id∧Az mem ρ id b:=by
  intro i b ⟨L,blk,g1,g3,g4,g2⟩;obtain⟨id,c,h1,h2,h3⟩:=OW g3;simp only[KI,h1]at g1;exact⟨id,h1,L,c,g1,h2,by rw[mO h3]at g4;exact g4,g2⟩
 have hok:∀b,okB mem ρ w b->okB (FQ mem l) (KI ρ l) w b:=by
  intro b ⟨h1,h2⟩;refine⟨h1,fun i hL=>?_⟩;obtain⟨id,_,h3⟩:=hown i b hL;exact h2 id h3
 refine⟨fun i b hi=>?_,fun i hi=>?_,fun i j b hi hj=>?_⟩
 ·obtain⟨id,c,h1,h2,h0⟩:=OW hi;obtain⟨L,hL,hr⟩:=h.blk id c h2;refine⟨L,by simp[KI,h1,hL],?_⟩;cases c with
  |box cells=>
   cases h0;obtain⟨g1,g2,g3,g4,c,T,g5,g6,g7,g8⟩:=hr;refine⟨g1,g2,g3,g4,c,T,g5,by simpa using g6,fun j x y hx hy=>?_,g8⟩;simp only[List.getElem?_map,Option.map_eq_some_iff]at hx;obtain⟨u,hu,rfl⟩:=hx;have:=Afp (l:=l) (g7 j u y hu hy);simpa [FQ]using this
  |row ks own r=>
   cases h0;obtain⟨g1,g2,g3,g4,g5⟩:=hr;exact⟨g1,g2,g3,fun hn=>⟨fun ho=>hok _ ((g4 hn).1 ho),(g4 hn).2.mono (fun b hb=>⟨hok b hb,rfl⟩) rfl⟩,g5⟩
  |deep ks r hh=>
   cases h0;exact hr
  |map k I Bo=>
   cases h0;exact hr
  |bor p e j ks r=>
   obtain⟨q,hq⟩:=hbor id p e j ks r h2;simp only[Qs,hq]at h0;cases h0;obtain⟨k1,k2,k3,k4,k5,Lp,kps,rp,hh,a,g1,g2,g3⟩:=hr;refine⟨k1,k2,k3,k4,k5,Lp,kps,rp,hh,a,?_,?_,g3⟩
   ·simp only[FQ,List.getElem?_map,H7 hq,Option.map_some,g1];rfl
   ·exact(FT hq).2.trans g2
 ·simp only[KI];split
  ·rename_i id hid;refine h.dead id fun b hb=>?_;have key:∃c,Qs l b=some c:=by
    cases b with
    |bor p e j ks r=>
     obtain⟨q,hq⟩:=hbor id p e j ks r hb;exact⟨.bor q e j ks r,by simp only[Qs,hq]⟩
    |_=>exact⟨_,rfl⟩
   obtain⟨c,hc⟩:=key;refine hi c ?_;simp[FQ,hid,hb,hc]
  ·rfl
 ·obtain⟨id,h1,h2⟩:=hown i b hi;obtain⟨jd,h3,h4⟩:=hown j b hj;have:=h.inj id jd b h2 h4;subst this;have hi':i<l.length:=(A0.1 h1).1;have hj':j<l.length:=(A0.1 h3).1;rw[AK hi']at h1;rw[AK hj']at h3;have heq:l[i]=l[j]:=(Option.some.inj h1).trans (Option.some.inj h3).symm;have hp:=List.pairwise_iff_getElem.1 hl;rcases Nat.lt_trichotomy i j with hij|hij|hij
  ·exact absurd heq (hp i j hi' hj' hij)
  ·exact hij
  ·exact absurd heq.symm (hp j i hj' hi' hij)
def TmpR.ren{N:Nat}{τ:List Value}{ts:Array Value}{l:List Nat}(h:TmpR ρ N τ ts):TmpR (KI ρ l) l.length (τ.map (ren l)) ts:=
 ⟨by simpa using h.1,fun t x y hx hy=>by
  simp only[List.getElem?_map,Option.map_eq_some_iff]at hx;obtain⟨u,hu,rfl⟩:=hx;exact Afp (h.2 t u y hu hy)⟩
def TmpsR.ren{N:Nat}{l:List Nat}:∀{τs:List (List Value)}{ts:List (Array Value)},TmpsR ρ N τs ts->TmpsR (KI ρ l) l.length (τs.map (·.map (Ev.ren l))) ts
 |[],[],_=>trivial
 |_::_,_::_,h=>⟨h.1.ren,TmpsR.ren h.2⟩
def QA{live:List Tmp}:∀(t:Nat)(τ:List Value),(GL live t τ).length=τ.length
 |_,[]=>rfl
 |t,v::vs=>by simp[GL,QA (t+1) vs]
def QN{live:List Tmp}:∀(t:Nat)(τ:List Value)(i:Nat)(x:Value),(GL live t τ)[i]? =some x->x=unk∨τ[i]? =some x
 |_,[],i,x,h=>by simp[GL]at h
 |t,v::vs,0,x,h=>by
  simp only[GL,List.getElem?_cons_zero,A5]at h;split at h
  ·exact .inr (by simp[h])
  ·exact .inl h.symm
 |t,v::vs,i+1,x,h=>by
  simp only[GL,List.getElem?_cons_succ]at h;rcases QN (t+1) vs i x h with h1|h1
  ·exact .inl h1
  ·exact .inr (by simpa using h1)
def Dn{w0:World}{a:Act}{cs:List (Array Value)}:∀(live:List Tmp){σ:St}{ρ:Map},Rel w0 σ a cs w ρ->∃ρ',Rel w0 (Td live σ) a cs w ρ'
 |[],σ,ρ,h=>⟨ρ,h⟩
 |t::ts,σ,ρ,h=>by
  unfold Td;split
  ·exact Dn ts h
  ·split
   ·rename_i hv
    let L:Loc:=⟨0,0,(DL 40 (t/10000)).1.length,0,0,true,s0⟩
    have hm:=h.mem.alloc (L:=L) (blk:=Hz (DL 40 (t/10000)).1 .nil) (Below.refl _ _) (fun _=>Loc.fresh rfl fun h=>by simp[L]at h) (OI _ _ _);have hR:Rel w0 {σ with mem:=σ.mem++[some (Hz (DL 40 (t/10000)).1 .nil)]} a cs w (Map.snoc ρ σ.mem.length L):=⟨h.defers,h.tmps.mono y_ (fun id hid=>.inl (Map.snoc_old hid)),h.saved.mono y_ (fun id hid=>.inl (Map.snoc_old hid)),h.below,hm⟩;have hg:=h.tmps.getD (t%10000);rw[<-Jj,hv]at hg;refine Dn ts (ρ:=Map.snoc ρ σ.mem.length L) ⟨hR.defers,⟨by simpa using hR.tmps.1,fun u x y hx hy=>?_⟩,hR.saved,hR.below,hR.mem⟩;simp only at hx;rw[List.getElem?_set]at hx;split at hx
    ·rename_i htu;split at hx
     ·cases hx;rw[<-htu]at hy;rw[Array.getD_eq_getD_getElem?,hy]at hg;generalize y=c at hg;cases hg;exact .slice (L:=L) y_ Map.snoc_new (by simp[L]) (AC _) (fun h=>o_) (fun _=>⟨by simp[L],.inl rfl⟩)
     ·cases hx
    ·exact hR.tmps.2 u x y hx hy
   ·rename_i id0 hv0;split
    ·rename_i cells hid;split
     ·rename_i hcell
      let L:Loc:=⟨0,0,(DL 40 (t/640000)).1.length,0,0,true,s0⟩
      have hm:=h.mem.alloc (L:=L) (blk:=Hz (DL 40 (t/640000)).1 .nil) (Below.refl _ _) (fun _=>Loc.fresh rfl fun h=>by simp[L]at h) (OI _ _ _);have hR:Rel w0 {σ with mem:=σ.mem++[some (Hz (DL 40 (t/640000)).1 .nil)]} a cs w (Map.snoc ρ σ.mem.length L):=⟨h.defers,h.tmps.mono y_ (fun id hid=>.inl (Map.snoc_old hid)),h.saved.mono y_ (fun id hid=>.inl (Map.snoc_old hid)),h.below,hm⟩;obtain⟨hlt,_⟩:=A0.1 hid;have hid1:(σ.mem++[some (Hz (DL 40 (t/640000)).1 .nil)])[id0]? =some (some (.box cells)):=by rw[AQ hlt];exact hid
      obtain⟨M,hM,r1,r2,r3,r4,c,T,r5,r6,r7,r8⟩:=hm.blk id0 _ hid1;have hw:=hm.write (w':=w) (blk':=.box (cells.set ((t/10000)%64) (.slice (some ⟨σ.mem.length,0,some 0⟩) 0 0))) hid1 (fun _ _ _ h=>by cases h) rfl hM r8 r4 (fun _ _=>rfl) rfl ⟨r1,r2,r3,r4,c,T,r5,by rw[List.length_set];exact r6,fun j x y hx hy=>by
       rw[List.getElem?_set]at hx;rw[List.length_set];split at hx
       ·rename_i hj;split at hx
        ·cases hx;have hold:=r7 _ _ y hcell (hj▸hy);cases hold;exact .slice (L:=L) y_ Map.snoc_new (by simp[L]) (AC _) (fun h=>o_) (fun _=>⟨by simp[L],.inl rfl⟩)
        ·cases hx
       ·exact r7 j x y hx hy,r8⟩
      exact Dn ts (ρ:=Map.snoc ρ σ.mem.length L) ⟨hR.defers,by simpa using hR.tmps,by simpa using hR.saved,hR.below,hw⟩
     ·exact Dn ts h
    ·exact Dn ts h
   ·exact Dn ts h
def IQ{w0:World}{σ:St}{a:Act}{cs:List (Array Value)}(h:Rel w0 σ a cs w ρ)(live:List Tmp):∃ρ',Rel w0 (Nh live σ) a cs w ρ':=by
 have hk:TmpR ρ σ.mem.length (GL live 0 σ.τ) a.tmps:=⟨by rw[QA];exact h.tmps.1,fun t x y hx hy=>by
  rcases QN 0 σ.τ t x hx with rfl|h1
  ·exact .unk
  ·exact h.tmps.2 t x y h1 hy⟩
 have hl:(reach σ.mem 2 (Ie [] ((GL live 0 σ.τ).flatMap refs++σ.saved.flatMap (·.flatMap refs)))).Nodup:=MI _ (FC _ List.nodup_nil);obtain⟨ρ0,hless,hm0⟩:=h.mem.gone (reach σ.mem 2 (Ie [] ((GL live 0 σ.τ).flatMap refs++σ.saved.flatMap (·.flatMap refs))));have hm1:=hm0.ren hl (fun id p e j ks r hb=>(Vd hb).2 p e j ks r rfl);rw[qI]at hm1;replace hk:=hk.mono (AC _) fun id _=>hless id;have hsv:=h.saved.mono (AC _) fun id _=>hless id;refine⟨KI ρ0 _,h.defers,?_,?_,h.below,hm1⟩
 ·have:=hk.ren (l:=reach σ.mem 2 (Ie [] ((GL live 0 σ.τ).flatMap refs++σ.saved.flatMap (·.flatMap refs))));simpa [Nh]using this
 ·have:=hsv.ren (l:=reach σ.mem 2 (Ie [] ((GL live 0 σ.τ).flatMap refs++σ.saved.flatMap (·.flatMap refs))));simpa [Nh]using this
def Ku{w0:World}{σ:St}{a:Act}{cs:List (Array Value)}(h:Rel w0 σ a cs w ρ)(live:List Tmp):∃ρ',Rel w0 (norm live σ) a cs w ρ':=by
 obtain⟨ρ',h'⟩:=Dn live h;exact IQ h' live
def MemR.view{mem:M_}(h:MemR mem ρ B w){sub:List CK}{r:Row}{c:Value}(hv:(r.n=0∧∃a cap,c=.slice a 0 cap)∨∃b off cap,c=.slice (some ⟨b,off,none⟩) r.n cap∧r.n<=cap∧okB mem ρ w b∧Rds (okB mem ρ w) w sub r b off):
  ∃ρ',MemR (mem++[some (.row sub false r)]) ρ' B w∧(∀id,id<mem.length->ρ' id=ρ id)∧(∀b,okB mem ρ w b->okB (mem++[some (.row sub false r)]) ρ' w b)∧V ρ' (mem.length+1) (.slice (some ⟨mem.length,0,some 0⟩) r.n 0) c:=by
 have hok:∀(L:Loc)(b:Nat),okB mem ρ w b->okB (mem++[some (.row sub false r)]) (Map.snoc ρ mem.length L) w b:=by
  intro L b ⟨h1,h2⟩;refine⟨h1,fun id ⟨M,blk,g1,g4,g5,g2⟩=>?_⟩;rcases BN g4 with⟨g6,g7⟩|⟨g6,g7⟩
  ·rw[Map.snoc_old g7]at g1;exact h2 id ⟨M,blk,g1,g6,g5,g2⟩
  ·cases g7;cases g5
 rcases hv with⟨h0,a,cap,rfl⟩|⟨b,off,cap,rfl,hc,hb,hd⟩
 ·let L:Loc:=⟨0,0,sub.length,0,0,false,s0⟩
  refine⟨Map.snoc ρ mem.length L,h.alloc (blk:=.row sub false r) (Below.refl _ _) (fun h=>by cases h) ⟨by rw[h0],rfl,(fun hf=>by cases hf),fun h=>o_,rfl⟩,fun id hid=>Map.snoc_old hid,hok L,?_⟩;rw[h0];exact .slice (L:=L) o_ Map.snoc_new (by simp[L]) (Nat.zero_le _) (fun h=>o_) (fun h=>by cases h)
 ·let L:Loc:=⟨b,off,sub.length,0,r.n,false,s0⟩
  refine⟨Map.snoc ρ mem.length L,h.alloc (blk:=.row sub false r) (Below.refl _ _) (fun h=>by cases h) ⟨rfl,rfl,(fun hf=>by cases hf),fun _=>⟨fun _=>hok L b hb,?_⟩,rfl⟩,fun id hid=>Map.snoc_old hid,hok L,?_⟩
  ·exact hd.mono (fun b' hb'=>⟨hok L b' hb',rfl⟩) rfl
  ·refine .slice (L:=L) o_ Map.snoc_new (by simp[L]) hc (fun h=>?_) (fun h=>by cases h);simp[Loc.adr,L]
def EC{ok:Nat->Prop}{r:Row}{e:Nat}{cv:Nat->Value}:∀(ks:List CK)(j:Nat)(mem mem2:M_)(ρ:Map)(vs:List Value),Dj r e ks j mem=some (vs,mem2)->MemR mem ρ B w->(∀b,ok b->okB mem ρ w b)->
  (∀(i:Nat)(k:CK),ks[i]? =some k->CellR ok w k r e (j+i) (cv (j+i)))->
  ∃ρ2,MemR mem2 ρ2 B w∧mem.length<=mem2.length∧(∀id,id<mem.length->ρ2 id=ρ id)∧vs.length=ks.length∧∀(i:Nat)(x:Value),vs[i]? =some x->V ρ2 mem2.length x (cv (j+i))
 |[],j,mem,mem2,ρ,vs,h,hm,hok,hc=>by
  simp only[Dj,A5,A6]at h;obtain⟨rfl,rfl⟩:=h;exact⟨ρ,hm,AC _,fun _ _=>rfl,rfl,fun i x hx=>by simp at hx⟩
 |k::ks,j,mem,mem2,ρ,vs,h,hm,hok,hc=>by
  have h0:CellR ok w k r e j (cv j):=hc 0 k rfl;have hs:∀(i:Nat)(k':CK),ks[i]? =some k'->CellR ok w k' r e (j+1+i) (cv (j+1+i)):=fun i k' hk=>by
   have:=hc (i+1) k' (by simpa using hk)
   rwa [show j+(i+1)=j+1+i by omega]at this
  have plain:∀(x:Value),(∀(ρ':Map)(N:Nat),V ρ' N x (cv j))->(match Dj r e ks (j+1) mem with|some (vs,m)=>some (x::vs,m)|none=>none)=some (vs,mem2)->
    ∃ρ2,MemR mem2 ρ2 B w∧mem.length<=mem2.length∧(∀id,id<mem.length->ρ2 id=ρ id)∧vs.length=(k::ks).length∧∀(i:Nat)(x:Value),vs[i]? =some x->V ρ2 mem2.length x (cv (j+i)):=by
   intro x hx h;split at h
   ·rename_i us m hu;cases h;obtain⟨ρ2,k1,k2,k3,k4,k5⟩:=EC ks (j+1) mem _ ρ us hu hm hok hs;refine⟨ρ2,k1,k2,k3,by simp[k4],fun i y hy=>?_⟩;cases i with
    |zero=>simp at hy;subst hy;exact hx _ _
    |succ i=>
     have:=k5 i y (by simpa using hy)
     rwa [show j+1+i=j+(i+1) by omega]at this
   ·cases h
  cases k with
  |int kd=>
   simp only[Dj]at h;refine plain _ (fun ρ' N=>?_) h;generalize cv j=c at h0;cases h0;exact .int
  |bool=>
   simp only[Dj]at h;refine plain _ (fun ρ' N=>?_) h;generalize cv j=c at h0;cases h0;exact .bool
  |str=>
   simp only[Dj]at h;refine plain _ (fun ρ' N=>?_) h;generalize cv j=c at h0;cases h0;exact .str
  |slice sub=>
   simp only[Dj]at h;split at h
   ·rename_i us m hu;cases h;have hv:((r.R e j).n=0∧∃a cap,cv j=.slice a 0 cap)∨∃b off cap,cv j=.slice (some ⟨b,off,none⟩) (r.R e j).n cap∧(r.R e j).n<=cap∧okB mem ρ w b∧Rds (okB mem ρ w) w sub (r.R e j) b off:=by
     generalize cv j=c at h0;cases h0 with
     |slice0 g=>exact .inl ⟨g,_,_,rfl⟩
     |slice g1 g2 g3 g4=>exact .inr ⟨_,_,_,by rw[g1],by rw[g1];exact g2,hok _ g3,g4.mono (fun b hb=>⟨hok b hb,rfl⟩) rfl⟩
    obtain⟨ρ1,n1,n2,n3,n4⟩:=hm.view hv;obtain⟨ρ2,k1,k2,k3,k4,k5⟩:=EC ks (j+1) _ _ ρ1 us hu n1 (fun b hb=>n3 b (hok b hb)) hs;have hl:mem.length+1<=mem2.length:=by simpa using k2
    refine⟨ρ2,k1,o_,fun id hid=>(k3 id z_).trans (n2 id hid),by simp[k4],fun i y hy=>?_⟩;cases i with
    |zero=>
     simp at hy;subst hy;exact n4.mono hl fun id hid=>.inl (k3 id (by simpa using hid))
    |succ i=>
     have:=k5 i y (by simpa using hy)
     rwa [show j+1+i=j+(i+1) by omega]at this
   ·cases h
  |other=>simp[Dj]at h
def MemR.bor{mem:M_}(h:MemR mem ρ B w){p e j:Nat}{kps sub:List CK}{rp:Row}{hh:Option (Nat×Nat)}{Lp:Loc}{c:Value}(hp:mem[p]? =some (some (.deep kps rp hh)))(hL:ρ p=some Lp)(he:e<rp.n)(hk:kps[j]? =some (.slice sub))(hho:Ej hh e j=false)
  (hc:w.cell? ⟨Lp.b,Lp.off+e*kps.length+j,none⟩=some c) (hd:DCell B w (.slice sub) rp e j false (Lp.sub e j) c):
  ∃ρ',MemR (mem++[some (.bor p e j sub (rp.R e j))]) ρ' B w∧(∀id,id<mem.length->ρ' id=ρ id)∧V ρ' (mem.length+1) (.slice (some ⟨mem.length,0,some 0⟩) (rp.R e j).n 0) c:=by
 obtain⟨d1,d2,d3⟩:=hd;obtain⟨a,cap,rfl,g1,g2⟩:=d3 rfl;have hplt:p<mem.length:=(A0.1 hp).1;have htot:0<Lp.tot:=by
  obtain⟨M,hM,hr⟩:=h.blk p _ hp;rw[hL]at hM;cases hM;have:=hr.2.2.2.1;omega
 have key:∀(L:Loc),L.n=(rp.R e j).n->L.sz=sub.length->L.own=true->L.sub=s0->L.tot=cap->(L.tot=0∨a=some ⟨L.b,L.off,none⟩)->∃ρ',MemR (mem++[some (.bor p e j sub (rp.R e j))]) ρ' B w∧(∀id,id<mem.length->ρ' id=ρ id)∧V ρ' (mem.length+1) (.slice (some ⟨mem.length,0,some 0⟩) (rp.R e j).n 0) (.slice a (rp.R e j).n cap):=by
  intro L h1 h2 h3 h4 h5 h6;refine⟨Map.snoc ρ mem.length L,h.alloc (blk:=.bor p e j sub (rp.R e j)) (Below.refl _ _) (fun h=>by cases h) ⟨d1,h1,h2,h3,h4,Lp,kps,rp,hh,a,?_,(Map.snoc_old hplt).trans hL,he,hk,hho,rfl,htot,by rw[h5];exact hc,h6⟩,fun id hid=>Map.snoc_old hid,?_⟩
  ·rw[AQ hplt];exact hp
  ·refine .slice (L:=L) o_ Map.snoc_new o_ g1 (fun h0=>?_) (fun _=>⟨o_,?_⟩)
   ·rcases h6 with h6|h6
    ·omega
    ·rw[h6];simp[Loc.adr]
   ·rcases h6 with h6|h6
    ·exact .inl o_
    ·right;rw[h6];simp[Loc.adr]
 rcases g2 with⟨g2,_⟩|⟨b,off,c,T,_,g3,_⟩
 ·exact key ⟨0,0,sub.length,cap,(rp.R e j).n,true,s0⟩ rfl rfl rfl rfl rfl (.inl g2)
 ·exact key ⟨b,off,sub.length,cap,(rp.R e j).n,true,s0⟩ rfl rfl rfl rfl rfl (.inr g3)
def ES{p e:Nat}{kps:List CK}{rp:Row}{Lp:Loc}{cv:Nat->Value}(he:e<rp.n):∀(ks:List CK)(j:Nat)(mem mem2:M_)(ρ:Map)(vs:List Value),DT p rp e ks j mem=some (vs,mem2)->MemR mem ρ B w->mem[p]? =some (some (.deep kps rp none))->ρ p=some Lp->
  (∀(i:Nat)(k:CK),ks[i]? =some k->kps[j+i]? =some k∧w.cell? ⟨Lp.b,Lp.off+e*kps.length+(j+i),none⟩=some (cv (j+i))∧DCell B w k rp e (j+i) false (Lp.sub e (j+i)) (cv (j+i)))->
  ∃ρ2,MemR mem2 ρ2 B w∧mem.length<=mem2.length∧(∀id,id<mem.length->ρ2 id=ρ id)∧vs.length=ks.length∧∀(i:Nat)(x:Value),vs[i]? =some x->V ρ2 mem2.length x (cv (j+i))
 |[],j,mem,mem2,ρ,vs,h,hm,hp,hL,hc=>by
  simp only[DT,A5,A6]at h;obtain⟨rfl,rfl⟩:=h;exact⟨ρ,hm,AC _,fun _ _=>rfl,rfl,fun i x hx=>by simp at hx⟩
 |k::ks,j,mem,mem2,ρ,vs,h,hm,hp,hL,hc=>by
  obtain⟨hk0,hw0,h0⟩:=hc 0 k rfl;rw[Nat.add_zero]at hk0 hw0 h0;have hs:∀(i:Nat)(k':CK),ks[i]? =some k'->kps[j+1+i]? =some k'∧w.cell? ⟨Lp.b,Lp.off+e*kps.length+(j+1+i),none⟩=some (cv (j+1+i))∧DCell B w k' rp e (j+1+i) false (Lp.sub e (j+1+i)) (cv (j+1+i)):=fun i k' hk=>by
   have:=hc (i+1) k' (by simpa using hk)
   rwa [show j+(i+1)=j+1+i by omega]at this
  have plain:∀(x:Value),(∀(ρ':Map)(N:Nat),V ρ' N x (cv j))->(match DT p rp e ks (j+1) mem with|some (vs,m)=>some (x::vs,m)|none=>none)=some (vs,mem2)->
    ∃ρ2,MemR mem2 ρ2 B w∧mem.length<=mem2.length∧(∀id,id<mem.length->ρ2 id=ρ id)∧vs.length=(k::ks).length∧∀(i:Nat)(x:Value),vs[i]? =some x->V ρ2 mem2.length x (cv (j+i)):=by
   intro x hx h;split at h
   ·rename_i us m hu;cases h;obtain⟨ρ2,k1,k2,k3,k4,k5⟩:=ES he ks (j+1) mem _ ρ us hu hm hp hL hs;refine⟨ρ2,k1,k2,k3,by simp[k4],fun i y hy=>?_⟩;cases i with
    |zero=>simp at hy;subst hy;exact hx _ _
    |succ i=>
     have:=k5 i y (by simpa using hy)
     rwa [show j+1+i=j+(i+1) by omega]at this
   ·cases h
  cases k with
  |int kd=>
   simp only[DT]at h;refine plain _ (fun ρ' N=>?_) h;change CellR _ _ _ _ _ _ _ at h0;generalize cv j=c at h0;cases h0;exact .int
  |bool=>
   simp only[DT]at h;refine plain _ (fun ρ' N=>?_) h;change CellR _ _ _ _ _ _ _ at h0;generalize cv j=c at h0;cases h0;exact .bool
  |str=>
   simp only[DT]at h;refine plain _ (fun ρ' N=>?_) h;change CellR _ _ _ _ _ _ _ at h0;generalize cv j=c at h0;cases h0;exact .str
  |slice sub=>
   simp only[DT]at h;split at h
   ·rename_i us m hu;cases h;obtain⟨ρ1,n1,n2,n4⟩:=hm.bor hp hL he hk0 rfl hw0 h0;have hplt:p<mem.length:=(A0.1 hp).1;obtain⟨ρ2,k1,k2,k3,k4,k5⟩:=ES he ks (j+1) _ _ ρ1 us hu n1 (by rw[AQ hplt];exact hp) ((n2 p hplt).trans hL) hs;have hl:mem.length+1<=mem2.length:=by simpa using k2
    refine⟨ρ2,k1,o_,fun id hid=>(k3 id z_).trans (n2 id hid),by simp[k4],fun i y hy=>?_⟩;cases i with
    |zero=>
     simp at hy;subst hy;exact n4.mono hl fun id hid=>.inl (k3 id (by simpa using hid))
    |succ i=>
     have:=k5 i y (by simpa using hy)
     rwa [show j+1+i=j+(i+1) by omega]at this
   ·cases h
  |other=>simp[DT]at h
def Jm{t:TypeId}{ms:Array (String×TypeId)}(ht:P.underlying t=some (.interface ms))(w:World):(Op.equal t .nilIface .nilIface).run P w=.ok true w:=by
 have h:∀d:Nat,(Op.equalIn (d+1) t .nilIface .nilIface).run P w=.ok true w:=fun d=>by simp[Op.equalIn,run_underlying ht]
 exact h 9999
def Rf{t s:TypeId}{x:Value}{ms:Array (String×TypeId)}(ht:P.underlying t=some (.interface ms))(w:World):(Op.equal t (.iface s x) .nilIface).run P w=.ok false w:=by
 have h:∀d:Nat,(Op.equalIn (d+1) t (.iface s x) .nilIface).run P w=.ok false w:=fun d=>by simp[Op.equalIn,run_underlying ht]
 exact h 9999
def PN{mem mem1:M_}(hm:MemR mem ρ B w){ea:Operand->Value}{a:Act}(hE:∀x,V ρ mem.length (ea x) (a.eval x)){o:Oper}{v:Value}(h:viewLoad P mem ea o=some (v,mem1)):
  ∃cv ρ1,MemR mem1 ρ1 B w∧mem.length<=mem1.length∧(∀id,id<mem.length->ρ1 id=ρ id)∧V ρ1 mem1.length v cv∧∀w',Below w.heap.size w w'->(execOp a.eval o).run P w'=.ok (.value cv) w':=by
 unfold viewLoad at h;split at h
 ·rename_i t x ho;split at h
  ·rename_i id e j i ag hx hi hag;split at h
   ·rename_i ks own r hb;split at h
    ·rename_i hsl;simp only[A2]at hsl;have hle:=Nat.le_of_ble_eq_true hsl.2;have hvx:=hE x;rw[hx]at hvx;generalize hcx:a.eval x=cx at hvx;cases hvx with
     |ptrDead h1 h2=>exact absurd h2 (BX hm hb)
     |ptr h1 h2 h3=>
      rename_i L;have hcell:∀i',i'<i.size->∃y,(∀k,ks[j+i']? =some k->CellR (okB mem ρ w) w k r e (j+i') y)∧∀w',Below w.heap.size w w'->w'.cell? (L.adr e (j+i'))=some y:=by
       intro i' hi';have hk:ks[j+i']? =some ks[j+i']:=AK o_;obtain⟨y,hy1,hy2⟩:=PK hm hb h2 h3 hk;exact⟨y,fun k hk'=>by rw[hk]at hk';cases hk';exact hy1,hy2⟩
      let f:Nat->Value:=fun q=>if hi':q-j<i.size then Classical.choose (hcell (q-j) hi')else undef
      have hf:∀i',i'<i.size->(∀k,ks[j+i']? =some k->CellR (okB mem ρ w) w k r e (j+i') (f (j+i')))∧∀w',Below w.heap.size w w'->w'.cell? (L.adr e (j+i'))=some (f (j+i')):=by
       intro i' hi';have:=Classical.choose_spec (hcell i' hi');have e1:j+i'-j=i':=o_;simp only[f,e1,hi',dif_pos];exact this
      have hrun:∀(w':World)(cv:Value),(loadVar t (L.adr e j)).run P w'=.ok cv w'->(execOp a.eval o).run P w'=.ok (.value cv) w':=by
       intro w' cv hv;simp[execOp,ho,hcx,Instr.loadAt,Instr.sureAddr,hv]
      have hcs:∀(i':Nat)(k:CK),((ks.drop j).take i.size)[i']? =some k->CellR (okB mem ρ w) w k r e (j+i') (f (j+i')):=by
       intro i' k hk;have hi':i'<i.size:=by have:=(A0.1 hk).1;simp at this;omega
       rw[take_drop_getElem? _ _ _ _ hi']at hk;exact(hf i' hi').1 k hk
      have hklen:((ks.drop j).take i.size).length=i.size:=z_;split at h
      ·rename_i vs m hvs;cases h;obtain⟨ρ2,k1,k2,k3,k4,k5⟩:=EC _ _ _ _ ρ vs hvs hm (fun b hb=>hb) hcs;rw[hklen]at k4;refine⟨.agg ⟨(List.range i.size).map fun i'=>f (j+i')⟩,ρ2,k1,k2,k3,.agg (by simp[k4]) fun i' p q hp hq=>?_,fun w' hw'=>hrun _ _ (Ee hi hag y_ fun i' v hv=>?_)⟩
       ·simp only[List.getElem?_toArray]at hp hq;have hi':i'<i.size:=by have:=(A0.1 hq).1;simpa using this
        simp[hi']at hq;subst hq;exact k5 i' p hp
       ·have hi':i'<i.size:=by have:=(A0.1 hv).1;simpa using this
        simp[hi']at hv;subst hv;rw[Loc.adr_add];exact(hf i' hi').2 w' hw'
      ·rename_i u m hvs;cases h;obtain⟨ρ2,k1,k2,k3,k4,k5⟩:=EC _ _ _ _ ρ _ hvs hm (fun b hb=>hb) hcs;rw[hklen]at k4;refine⟨f (j+0),ρ2,k1,k2,k3,k5 0 v rfl,fun w' hw'=>hrun _ _ (Ed hag ?_)⟩;exact(hf 0 (by simp at k4;omega)).2 w' hw'
      ·cases h
    ·cases h
   ·rename_i ks r hb;split at h
    ·rename_i hsl;simp only[A2]at hsl;have hle:=Nat.le_of_ble_eq_true hsl.2;have hvx:=hE x;rw[hx]at hvx;generalize hcx:a.eval x=cx at hvx;cases hvx with
     |ptrDead h1 h2=>exact absurd h2 (BX hm hb)
     |ptr h1 h2 h3=>
      rename_i L;obtain⟨M,hM,hbr⟩:=hm.blk _ _ hb;rw[h2]at hM;cases hM;obtain⟨b1,b2,b3,b4,b5,b6,b7,b8⟩:=hbr;have he:e<r.n:=o_;have hcell:∀i',i'<i.size->∃y,(∀k,ks[j+i']? =some k->w.cell? ⟨L.b,L.off+e*ks.length+(j+i'),none⟩=some y∧DCell B w k r e (j+i') false (L.sub e (j+i')) y)∧∀w',Below w.heap.size w w'->w'.cell? (L.adr e (j+i'))=some y:=by
       intro i' hi';have hk:ks[j+i']? =some ks[j+i']:=AK o_;obtain⟨y,hy1,hy2⟩:=b6 e (j+i') _ he hk;refine⟨y,fun k hk'=>by rw[hk]at hk';cases hk';exact⟨hy1,hy2⟩,fun w' hw'=>?_⟩;have hlt:L.b<w.heap.size:=World.block_lt_of_cell? w _ hy1;rw[<-b2]at hy1;rw[show L.adr e (j+i')=(⟨L.b,L.off+e*L.sz+(j+i'),none⟩:Addr)from rfl,World.cell?_of_block (w:=w) (hw'.block _ hlt)];exact hy1
      let f:Nat->Value:=fun q=>if hi':q-j<i.size then Classical.choose (hcell (q-j) hi')else undef
      have hf:∀i',i'<i.size->(∀k,ks[j+i']? =some k->w.cell? ⟨L.b,L.off+e*ks.length+(j+i'),none⟩=some (f (j+i'))∧DCell B w k r e (j+i') false (L.sub e (j+i')) (f (j+i')))∧∀w',Below w.heap.size w w'->w'.cell? (L.adr e (j+i'))=some (f (j+i')):=by
       intro i' hi';have:=Classical.choose_spec (hcell (j+i'-j) o_);have e1:j+i'-j=i':=o_;simp only[f,e1,hi',dif_pos];have e2:=Classical.choose_spec (hcell i' hi');exact e2
      have hrun:∀(w':World)(cv:Value),(loadVar t (L.adr e j)).run P w'=.ok cv w'->(execOp a.eval o).run P w'=.ok (.value cv) w':=by
       intro w' cv hv;simp[execOp,ho,hcx,Instr.loadAt,Instr.sureAddr,hv]
      have hcs:∀(i':Nat)(k:CK),((ks.drop j).take i.size)[i']? =some k->ks[j+i']? =some k∧w.cell? ⟨L.b,L.off+e*ks.length+(j+i'),none⟩=some (f (j+i'))∧DCell B w k r e (j+i') false (L.sub e (j+i')) (f (j+i')):=by
       intro i' k hk;have hi':i'<i.size:=by have:=(A0.1 hk).1;simp at this;omega
       rw[take_drop_getElem? _ _ _ _ hi']at hk;exact⟨hk,(hf i' hi').1 k hk⟩
      have hklen:((ks.drop j).take i.size).length=i.size:=z_;split at h
      ·rename_i vs m hvs;cases h;obtain⟨ρ2,k1,k2,k3,k4,k5⟩:=ES he _ _ _ _ ρ vs hvs hm hb h2 hcs;rw[hklen]at k4;refine⟨.agg ⟨(List.range i.size).map fun i'=>f (j+i')⟩,ρ2,k1,k2,k3,.agg (by simp[k4]) fun i' p q hp hq=>?_,fun w' hw'=>hrun _ _ (Ee hi hag y_ fun i' v hv=>?_)⟩
       ·simp only[List.getElem?_toArray]at hp hq;have hi':i'<i.size:=by have:=(A0.1 hq).1;simpa using this
        simp[hi']at hq;subst hq;exact k5 i' p hp
       ·have hi':i'<i.size:=by have:=(A0.1 hv).1;simpa using this
        simp[hi']at hv;subst hv;rw[Loc.adr_add];exact(hf i' hi').2 w' hw'
      ·rename_i u m hvs;cases h;obtain⟨ρ2,k1,k2,k3,k4,k5⟩:=ES he _ _ _ _ ρ _ hvs hm hb h2 hcs;rw[hklen]at k4;refine⟨f (j+0),ρ2,k1,k2,k3,k5 0 v rfl,fun w' hw'=>hrun _ _ (Ed hag ?_)⟩;exact(hf 0 (by simp at k4;omega)).2 w' hw'
      ·cases h
    ·cases h
   ·cases h
  ·cases h
 ·rename_i src dst x ho;split at h
  ·rename_i el id e len hs hd hx;split at h
   ·rename_i own r hu8 hb;cases h;have hvx:=hE x;rw[hx]at hvx;generalize hcx:a.eval x=cx at hvx;have hrun:∀(w':World)(a':Option Addr)(cap:Nat)(cv:Value),cx=.slice a' len cap->(Conv.bytesToString (.slice a' len cap)).run P w'=.ok cv w'->(execOp a.eval o).run P w'=.ok (.value cv) w':=by
     intro w' a' cap cv he hv;subst he;simp only[execOp,ho,hcx,Sem.run_bind,run_convert_bytes_string w' src dst el a' len cap hs hu8 hd,hv,Result.andThen_ok,Sem.run_pure]
    cases hvx with
    |sliceDead h1 h2=>exact absurd h2 (BX hm hb)
    |@slice _ _ _ L a' cap h1 h2 h3 h4 h5 h6=>
     refine⟨_,ρ,hm,AC _,fun _ _=>rfl,.str,fun w' hw'=>hrun w' a' cap _ rfl ?_⟩;by_cases h0:len=0
     ·subst h0;cases a' with
      |none=>rfl
      |some a'=>exact run_bytesToString w' a' 0 cap [] (run_loadCells_list (P:=P) w' a' [] (fun j v hv=>by simp at hv))
     ·rw[h5 o_];have hsz:L.sz=1:=by
       obtain⟨M,hM,_,b2,_⟩:=hm.blk _ _ hb;rw[h2]at hM;cases hM;exact b2
      refine run_bytesToString w' (L.adr e 0) len cap ((List.range len).map fun i=>r.I (e+i) 0) ?_;have:=run_loadCells_list (P:=P) w' (L.adr e 0) (((List.range len).map fun i=>r.I (e+i) 0).map (Value.int .u8)) (fun j v hv=>by
       have hj:j<len:=by have:=(A0.1 hv).1;simpa using this
       simp[hj]at hv;subst hv;obtain⟨y,hy1,hy2⟩:=PK hm hb h2 (show e+j<L.n by omega) (j:=0) (k:=.int .u8) rfl;cases hy1;have h7:=hy2 w' hw';rw[<-h7]
       congr 1
       simp[Loc.adr,Addr.add,hsz,Nat.add_assoc])
      simpa using this
   ·cases h
  ·cases h
 ·rename_i op t x q ho;have hvx:=hE x;have hev:a.eval (.const .nilIface)=.nilIface:=rfl;split at h
  ·rename_i hu hx;cases h;rw[hx]at hvx;generalize hcx:a.eval x=cx at hvx;cases hvx;refine⟨_,ρ,hm,AC _,fun _ _=>rfl,.bool,fun w' _=>?_⟩;simp[execOp,ho,hcx,hev,eqGuard,binOp,Jm hu]
  ·rename_i hu hx;cases h;rw[hx]at hvx;generalize hcx:a.eval x=cx at hvx;cases hvx;refine⟨_,ρ,hm,AC _,fun _ _=>rfl,.bool,fun w' _=>?_⟩;simp[execOp,ho,hcx,hev,eqGuard,binOp,Jm hu]
  ·rename_i b hu hx;cases h;rw[hx]at hvx;generalize hcx:a.eval x=cx at hvx;cases hvx with
   |iface h1 h2=>
    refine⟨_,ρ,hm,AC _,fun _ _=>rfl,.bool,fun w' _=>?_⟩;cases b with
    |true=>
     obtain⟨t',y,rfl⟩:=h1 rfl;simp[execOp,ho,hcx,hev,eqGuard,binOp,Rf hu]
    |false=>
     obtain rfl:=h2 rfl;simp[execOp,ho,hcx,hev,eqGuard,binOp,Jm hu]
  ·rename_i b hu hx;cases h;rw[hx]at hvx;generalize hcx:a.eval x=cx at hvx;cases hvx with
   |iface h1 h2=>
    refine⟨_,ρ,hm,AC _,fun _ _=>rfl,.bool,fun w' _=>?_⟩;cases b with
    |true=>
     obtain⟨t',y,rfl⟩:=h1 rfl;simp[execOp,ho,hcx,hev,eqGuard,binOp,Rf hu]
    |false=>
     obtain rfl:=h2 rfl;simp[execOp,ho,hcx,hev,eqGuard,binOp,Jm hu]
  ·cases h
 ·cases h
def Rel.view{w0:World}{σ:St}{a:Act}{cs:List (Array Value)}(h:Rel w0 σ a cs w ρ){o:Oper}{v:Value}{m:M_}(hv:viewLoad P σ.mem (env σ.τ) o=some (v,m)):
  ∃cv ρ1,Rel w0 (({σ with mem:=m}:St).put o.dst v) (a.put o.dst cv) cs w ρ1∧∀w',Below w.heap.size w w'->(execOp a.eval o).run P w'=.ok (.value cv) w':=by
 obtain⟨cv,ρ1,k1,k2,k3,k4,k5⟩:=PN h.mem (fun x=>h.tmps.env x) hv;refine⟨cv,ρ1,?_,k5⟩;have h1:Rel w0 {σ with mem:=m} a cs w ρ1:=⟨h.defers,h.tmps.mono k2 fun id hid=>.inl (k3 id hid),h.saved.mono k2 fun id hid=>.inl (k3 id hid),h.below,k1⟩;exact h1.put o.dst k4
end
end Go.Ev
namespace Go.Ev
open Go
section
variable{P:Program}{ops:Array Oper}{md:Region.Mode}
def Z7{e:Operand->Value}{o:Oper}(h:VS P o=true){w w1:World}{n:Next}(hr:(execOp e o).run P w=.ok n w1):(∃v,n=.value v)∧∀w',(execOp e o).run P w'=.ok n w':=by
 unfold VS at h;split at h
 ·rename_i x ho;simp only[execOp,ho,Sem.run_pure,Result.ok.injEq]at hr⊢;exact⟨⟨_,hr.1.symm⟩,fun w'=>⟨hr.1,trivial⟩⟩
 ·rename_i x ho;simp only[execOp,ho,Sem.run_pure,Result.ok.injEq]at hr⊢;exact⟨⟨_,hr.1.symm⟩,fun w'=>⟨hr.1,trivial⟩⟩
 ·rename_i s x f ho;split at h
  ·rename_i fs hu;split at h
   ·rename_i fl hf;split at h
    ·rename_i fi hfi;have hsz:¬fi.size=0:=fun h0=>by rw[h0]at h;cases h
     have key:∀(p:Addr)(w':World),e x=.pointer (some p)->(execOp e o).run P w'=.ok (.value (.pointer (some (p.add fl.offset)))) w':=fun p w' hp=>by
      simp[execOp,ho,hp,Instr.fieldAt,run_underlying hu,hf,Instr.sureAddr,fieldPlace,run_sizeOf hfi,hsz]
     have hp:∃p,e x=.pointer (some p):=by
      generalize he:e x=y at*
      cases y with
      |pointer p=>
       cases p with
       |some p=>exact⟨p,rfl⟩
       |none=>simp[execOp,ho,he,Instr.fieldAt,run_underlying hu,hf,Instr.sureAddr,stuck]at hr
      |_=>simp[execOp,ho,he,Instr.fieldAt,run_underlying hu,hf,Instr.sureAddr,stuck]at hr
     obtain⟨p,hp⟩:=hp;rw[key p w hp]at hr;cases hr;exact⟨⟨_,rfl⟩,fun w'=>key p w' hp⟩
    ·cases h
   ·cases h
  ·cases h
 ·cases h
def Clo(md:Region.Mode)(ops:Array Oper)(listed:Array Bool):Prop:=∀j oj,ops[j]? =some oj->listed.getD j false=true->∀e∈oj.after,Region.binds md e=true->listed.getD e.on false=true
def Clo.set{i:Nat}{listed:Array Bool}(inv:Clo md ops listed)(hi:i∈Region.ready md ops listed):Clo md ops (listed.setIfInBounds i true):=fun j oj hj hl e he hb=>by
 obtain⟨_,oi,hoi,hall⟩:=mem_ready.1 hi;by_cases hij:i=j
 ·subst hij;have:oj=oi:=Option.some.inj (hj.symm.trans hoi);subst this;exact getD_set_true (hall e he hb)
 ·rw[getD_set_ne false hij]at hl;exact getD_set_true (inv j oj hj hl e he hb)
def Clo.none:Clo md ops (Array.replicate ops.size false):=fun j oj _ hl=>by rw[getD_replicate_false]at hl;cases hl
def O7{listed:Array Bool}{i:Nat}(inv:Clo md ops listed)(hun:listed.getD i true=false):∀(n j:Nat),FN md ops n j i=true->listed.getD j false=false∧j∉Region.ready md ops listed
 |0,j,h=>by cases h
 |n+1,j,h=>by
  have key:∀m,listed.getD m false=false->Region.waitsFor md ops j m=true->listed.getD j false=false∧j∉Region.ready md ops listed:=fun m hm hw=>by
   obtain⟨oj,hoj,e,he,hb,hon⟩:=Region.waitsFor_spec hw;constructor
   ·cases hl:listed.getD j false with
    |false=>rfl
    |true=>
     have:=inv j oj hoj hl e he hb;rw[hon,hm]at this;cases this
   ·intro hr;obtain⟨_,oj',hoj',hall⟩:=mem_ready.1 hr;have:oj'=oj:=Option.some.inj (hoj'.symm.trans hoj);subst this;have:=hall e he hb;rw[hon,hm]at this;cases this
  simp only[FN,Bool.or_eq_true,List.any_eq_true,A2]at h;rcases h with h|⟨m,_,h1,h2⟩
  ·exact key i (getD_both hun) h
  ·exact key m (O7 inv hun n m h2).1 h1
end
def ZP(a:Act)(d:Option Tmp)(v:Value)(D:Deferred):({a.put d v with defers:=D::(a.put d v).defers}:Act)=({a with defers:=D::a.defers}:Act).put d v:=by cases d<;>rfl
def IK{P:Program}{md:Region.Mode}{ops:Array Oper}{Q:Exit->Act->World->Prop}{Q':Exit->Act->World->Prop}(hQQ:∀e a w,Q e a w->Q' e a w):∀(f:Nat)(listed:Array Bool)(a:Act)(w:World),wpAny P md ops Q f listed a w->wpAny P md ops Q' f listed a w
 |0,_,_,_,h=>⟨h.1,hQQ _ _ _ h.2⟩
 |f+1,listed,a,w,h=>⟨fun h0=>hQQ _ _ _ (h.1 h0),fun i hi=>by
   have h1:=wpOp_mono (IK hQQ f (listed.setIfInBounds i true)) (h.2 i hi);have hl:LetsOut Q->LetsOut Q':=fun⟨a,w,h⟩=>⟨a,w,hQQ _ _ _ h⟩;unfold wpOp at*
   split
   ·rename_i ho;simp only[ho]at h1;exact h1
   ·rename_i o ho;simp only[ho]at h1;split
    ·rename_i hw;rw[AM hw]at h1;rcases h1 with h1|h1
     ·left
      unfold Oper.wp at*
      generalize(execOp a.eval o).run P w=r at*
      cases r with
      |ok n w'=>
       cases n<;>simp only[Oper.upon]at h1⊢<;>first|exact h1|exact Calls.mono h1 (fun e w'' he=>by cases e<;>first|exact he|exact hQQ _ _ _ he|exact hl he)|exact Rows.mono h1 (fun _ _ he=>he)
      |halt y w'=>cases y<;>simp only[Oper.upon]at h1⊢<;>exact hQQ _ _ _ h1
     ·exact .inr ⟨h1.1,hl h1.2⟩
    ·rename_i hw;rw[AL hw]at h1;exact h1⟩
section
def WI{α:Type}(m:Sem α):Prop:=∀(P:Program)(w w1:World)(r:α),m.run P w=.ok r w1->w1=w∧∀w',m.run P w'=.ok r w'
def Bg{α:Type}(x:α):WI (pure x:Sem α):=fun P w w1 r h=>by
 simp only[Sem.run_pure,Result.ok.injEq]at h⊢;exact⟨h.2.symm,fun w'=>⟨h.1,trivial⟩⟩
def Bh{α β:Type}{x:Sem α}{f:α->Sem β}(hx:WI x)(hf:∀a,WI (f a)):WI (x>>=f):=fun P w w1 r h=>by
 simp only[Sem.run_bind]at h⊢;cases hq:x.run P w with
 |ok a w2=>
  rw[hq]at h;obtain⟨rfl,h2⟩:=hx P w w2 a hq;obtain⟨h3,h4⟩:=hf a P w2 w1 r h;exact⟨h3,fun w'=>by rw[h2 w'];exact h4 w'⟩
 |halt y w2=>rw[hq]at h;cases h
def Ci{α:Type}(y:Halt):WI (.halt y:Sem α):=fun P w w1 r h=>by cases h
def Io:WI program:=fun P w w1 r h=>by
 rw[run_program]at h;cases h;exact⟨rfl,fun w'=>run_program ..⟩
def Gu(t:TypeId):WI (typeInfo t):=by
 unfold typeInfo;refine Bh Io fun p=>?_;split
 ·exact Bg _
 ·exact Ci _
def Dh(t:TypeId):WI (underlying t):=by
 unfold underlying;refine Bh Io fun p=>?_;split
 ·exact Bg _
 ·exact Ci _
def E5:∀(l:List FieldStep)(t:TypeId)(x:Option Value),WI (followBlind l t x)
 |[],_,_=>Bg _
 |s::rest,t,x=>by
  unfold followBlind;refine Bh (Dh _) fun u=>?_;split
  ·split
   ·split
    ·exact Bg _
    ·exact E5 _ _ _
    ·exact Ci _
    ·exact Bg _
    ·refine Bh ?_ fun y=>E5 _ _ _;unfold part isAgg sizeOf;refine Bh (Bh (Dh _) fun u=>?_) fun b=>?_
     ·split<;>exact Bg _
     ·split
      ·exact Bh (Bh (Gu _) fun _=>Bg _) fun _=>Bg _
      ·split
       ·exact Bg _
       ·exact Ci _
    ·exact Ci _
    ·exact E5 _ _ _
   ·exact Ci _
  ·exact Ci _
def Nk:∀(n:Nat)(t:TypeId)(v:Value)(name:String),WI (nilAhead n t v name)
 |0,_,_,_=>Bg _
 |n+1,t,v,name=>by
  unfold nilAhead;refine Bh (Gu _) fun i=>?_;split
  ·refine Bh (E5 _ _ _) fun y=>?_;split
   ·exact Bg _
   ·split
    ·exact Nk _ _ _ _
    ·exact Bg _
    ·exact Ci _
    ·exact Bg _
    ·exact Bg _
    ·refine Bh (Dh _) fun u=>?_;split<;>exact Bg _
  ·exact Ci _
end
section
open RowKit
def WB{α:Type}(m:Sem α):Prop:=∀(P:Program)(w w1:World)(r:α),m.run P w=.ok r w1->Below w.heap.size w w1
def O4{α:Type}{m:Sem α}(h:WI m):WB m:=fun P w w1 r hr=>by
 obtain⟨rfl,_⟩:=h P w w1 r hr;exact Below.refl _ _
def NS{α β:Type}{x:Sem α}{f:α->Sem β}(hx:WB x)(hf:∀a,WB (f a)):WB (x>>=f):=fun P w w1 r h=>by
 simp only[Sem.run_bind]at h;cases hq:x.run P w with
 |ok a w2=>
  rw[hq]at h;exact(hx P w w2 a hq).trans ((hf a P w2 w1 r h).mono (hx P w w2 a hq).size)
 |halt y w2=>rw[hq]at h;cases h
def Zz(t:TypeId)(cells:Array Value):WB (newRow t cells):=by
 unfold newRow;refine NS (fun P w w1 r h=>?_) fun b=>O4 (Bg _);have h':Result.ok w.heap.size (w.alloc (.cells cells t))=Result.ok r w1:=h;cases h';exact(Below.refl _ _).alloc (AC _) _
def Jk(t:TypeId):WI (sizeOf t):=by
 unfold sizeOf;exact Bh (Gu _) fun _=>Bg _
def SC(t:TypeId):WI (zeroValue t):=by
 unfold zeroValue;refine Bh (Gu _) fun i=>?_;split
 ·exact Bg _
 ·exact Ci _
def PT(t:TypeId)(len:Nat)(parts:Array (Nat×Value)):WB (Instr.buildSlice t len parts):=by
 unfold Instr.buildSlice;refine NS (O4 (Dh _)) fun u=>?_;split
 ·refine NS (O4 (Jk _)) fun size=>?_;dsimp only
  repeat' first
   |exact O4 (Ci _)
   |exact O4 (Bg _)
   |exact Zz _ _
   |exact O4 (SC _)
   |split
   |refine NS ?_ fun _=>?_
 ·exact O4 (Ci _)
def Ud{e:Operand->Value}{o:Oper}(ho:iE o.op=true){P:Program}{w w1:World}{n:Next}(hr:(execOp e o).run P w=.ok n w1):Below w.heap.size w w1∧∃v,n=.value v:=by
 unfold iE at ho;split at ho
 ·rename_i t len parts hop;unfold execOp at hr;rw[hop]at hr;simp only[Sem.run_bind]at hr;cases hq:(Instr.buildSlice t len (parts.map fun x=>(x.1,e x.2))).run P w with
  |ok a w2=>
   have hq':=hq;rw[hq]at hr;simp only[Sem.run_pure]at hr;cases hr;exact⟨PT _ _ _ P w _ _ hq',_,rfl⟩
  |halt y w2=>rw[hq]at hr;cases hr
 ·cases ho
end
section
variable{P:Program}{ops:Array Oper}{md:Region.Mode}{Q':Exit->Act->World->Prop}
open RowKit
def YG(P:Program)(ops:Array Oper)(fl:Bool)(o:Oper)(v:Value)(a:Act)(w:World):Prop:=(∀w',Below w.heap.size w w'->YieldsAt P ops w' o v a)∧(fl=true->∀w',YieldsAt P ops w' o v a)
def YG.put{fl:Bool}{oi oj:Oper}{v u:Value}{a:Act}{w w':World}(hsi:∀cs b,oi.op≠.select cs b)(h3:∀d,oj.dst=some d->d∉oi.looksAt ops)(h:YG P ops fl oi v a w)(hw:Below w.heap.size w w'∨fl=true):YG P ops fl oi v (a.put oj.dst u) w':=by
 have e1:=execOp_put oi hsi a oj.dst u h3;have e2:=wanted_put oi a oj.dst u h3;refine⟨fun w2 hb=>?_,fun hf w2=>(h.2 hf w2).of_same e1 e2⟩;rcases hw with hw|hf
 ·exact(h.1 w2 (hw.trans (hb.mono hw.size))).of_same e1 e2
 ·exact(h.2 hf w2).of_same e1 e2
def iF(P:Program)(ops:Array Oper)(w:World)(Q:Act->Prop):List Oper->Act->Prop
 |[],a=>Q a
 |o::rest,a=>∃v,(∀w',Below w.heap.size w w'->YieldsAt P ops w' o v a)∧iF P ops w Q rest (a.put o.dst v)
def WV(m:Sem Next):Prop:=∀(P:Program)(w w1:World)(n:Next),m.run P w=.ok n w1->(∃v,n=.value v)∧∀w',m.run P w'=.ok n w'
def PP(v:Value):WV (pure (.value v)):=fun P w w1 n h=>by
 simp only[Sem.run_pure,Result.ok.injEq]at h⊢;exact⟨⟨_,h.1.symm⟩,fun w'=>⟨h.1,trivial⟩⟩
def KQ{α:Type}{x:Sem α}{f:α->Sem Next}(hx:WI x)(hf:∀a,WV (f a)):WV (x>>=f):=fun P w w1 r h=>by
 simp only[Sem.run_bind]at h⊢;cases hq:x.run P w with
 |ok a w2=>
  rw[hq]at h;obtain⟨rfl,h2⟩:=hx P w w2 a hq;obtain⟨h3,h4⟩:=hf a P w2 w1 r h;exact⟨h3,fun w'=>by rw[h2 w'];exact h4 w'⟩
 |halt y w2=>rw[hq]at h;cases h
def Aa3(y:Halt):WV (.halt y:Sem Next):=fun P w w1 r h=>by cases h
def KA:WV (runtimePanic .nilDeref):=by
 unfold runtimePanic;refine KQ Io fun p=>?_;exact Aa3 _
def Ai3{e:Operand->Value}{o:Oper}{x:Operand}(ho:o.op=.nilCheck x):WV (execOp e o):=by
 unfold execOp;rw[ho];simp only;split
 ·exact KA
 ·exact KA
 ·exact KA
 ·split
  ·exact KA
  ·refine KQ Io fun p=>KQ (Nk _ _ _ _) fun b=>?_;split
   ·exact KQ (Ci _) fun _=>PP _
   ·exact PP _
  ·exact PP _
 ·exact PP _
def Vm{α:Type}{m:Sem α}(h:∀P w w1 r,m.run P w≠.ok r w1):WI m:=fun P w w1 r hr=>absurd hr (h P w w1 r)
def Kt{α β:Type}{x:Sem α}{f:α->Sem β}(h:∀a P w w1 r,(f a).run P w≠.ok r w1)(P:Program)(w w1:World)(r:β):(x>>=f).run P w≠.ok r w1:=fun hr=>by
 simp only[Sem.run_bind]at hr;cases hq:x.run P w with
 |ok a w2=>rw[hq]at hr;exact h a P w2 w1 r hr
 |halt y w2=>rw[hq]at hr;cases hr
def Qk(x:Value)(y:Nat)(c:BoundsCode):WI (Instr.sliceBound x y c):=by
 unfold Instr.sliceBound;refine Bh ?_ fun p=>?_
 ·unfold asIntOf;split<;>first|exact Bg _|exact Ci _
 ·dsimp only;split
  ·exact Bg _
  ·refine Vm ?_;unfold boundsPanic runtimePanic;split<;>exact Kt fun _=>Kt fun _ _ _ _ _ hr=>by cases hr
def DD(b:Bool)(n c:Nat)(l h m:Option Value):WI (Instr.sliceBounds b n c l h m):=by
 unfold Instr.sliceBounds;cases m<;>cases h<;>cases l<;>dsimp only<;>repeat' first|with_reducible exact Qk _ _ _|with_reducible exact Bg _|with_reducible refine Bh ?_ fun _=>?_|exact Ci _
def VP(t:TypeId)(x:Value)(l h m:Option Value):WI (Instr.sliceAt t x l h m):=by
 unfold Instr.sliceAt;refine Bh (Dh _) fun u=>?_;split
 ·refine Bh ?_ fun _=>Bh (DD _ _ _ _ _ _) fun _=>Bh (Jk _) fun _=>Bg _;unfold Instr.sureAddr;split<;>first|exact Bg _|exact Ci _
 ·unfold Instr.slice;refine Bh (Dh _) fun u=>?_;split
  ·split
   ·exact Bh (Ci _) fun _=>Bh (DD _ _ _ _ _ _) fun _=>Bg _
   ·exact Bh (DD _ _ _ _ _ _) fun _=>Bg _
  ·exact Bh (DD _ _ _ _ _ _) fun _=>Bh (Jk _) fun _=>Bg _
  ·refine Bh ?_ fun _=>Bh (Dh _) fun _=>?_
   ·unfold asAddr;split
    ·exact Bg _
    ·exact Vm (Kt fun _ _ _ _ _ hr=>by cases hr)
    ·exact Ci _
   ·split
    ·exact Bh (DD _ _ _ _ _ _) fun _=>Bh (Jk _) fun _=>Bg _
    ·exact Ci _
  ·exact Ci _
def H5{e:Operand->Value}{o:Oper}(h:LV P o=true){w w1:World}{n:Next}(hr:(execOp e o).run P w=.ok n w1):(∃v,n=.value v)∧∀w',(execOp e o).run P w'=.ok n w':=by
 unfold LV at h;rw[Bool.or_eq_true]at h;rcases h with h|h
 ·exact Z7 h hr
 ·split at h
  ·rename_i x ho;exact Ai3 ho P w w1 n hr
  ·rename_i ho;refine(?_:WV (execOp e o)) P w w1 n hr;unfold execOp;rw[ho];exact KQ (VP _ _ _ _ _) fun _=>PP _
  ·cases h
def NK(P:Program)(ops:Array Oper)(Q':Exit->Act->World->Prop)(i:Nat)(K:Act->World->Prop)(a:Act)(w:World):Prop:=
 match TJ ops i with
 |true=>wpOp P ops Q' i K a w
 |false=>stOp P ops w i (fun a'=>K a' w) a
def Zk{i:Nat}{K K':Act->World->Prop}{a:Act}{w:World}(h:∀a w,K a w->K' a w)(hh:NK P ops Q' i K a w):NK P ops Q' i K' a w:=by
 unfold NK at*
 split
 ·rename_i hs;rw[hs]at hh;exact wpOp_mono h hh
 ·rename_i hs;rw[hs]at hh;exact stOp_mono (fun a'=>h a' w) hh
def VO(P:Program)(md:Region.Mode)(ops:Array Oper)(Q':Exit->Act->World->Prop)(Q:Act->World->Prop):Nat->Array Bool->Act->World->Prop
 |0,listed,a,w=>Region.ready md ops listed=[]∧Q a w
 |f+1,listed,a,w=>(Region.ready md ops listed=[]->Q a w)∧∀i∈Region.ready md ops listed,NK P ops Q' i (VO P md ops Q' Q f (listed.setIfInBounds i true)) a w
def Ti{i:Nat}{K K':Act->World->Prop}{a:Act}{w:World}(h:∀a w,K a w->K' a w)(hh:NK P ops Q' i K a w):wpOp P ops Q' i K' a w:=by
 unfold NK at hh;split at hh
 ·exact wpOp_mono h hh
 ·exact wpOp_of_stOp (fun a'=>h a' w) hh
def MP{Q:Act->World->Prop}(hQ:∀a w,Q a w->Q' .normal a w):∀(f:Nat)(listed:Array Bool)(a:Act)(w:World),VO P md ops Q' Q f listed a w->wpAny P md ops Q' f listed a w
 |0,_,_,_,h=>⟨h.1,hQ _ _ h.2⟩
 |f+1,_,_,_,h=>⟨fun h0=>hQ _ _ (h.1 h0),fun i hi=>Ti (MP hQ f _) (h.2 i hi)⟩
def lY(hQ:∀e a w,Q' e a w->e=.normal){j:Nat}{oi oj:Oper}{fl:Bool}{v:Value}(hj:ops[j]? =some oj)(hap:oi.apart ops oj=true)(hk:TJ ops j=true->fl=true∨iE oj.op=true)
  (hsi:∀cs b,oi.op≠.select cs b) (hsj:∀cs b,oj.op≠.select cs b) {K:Act->World->Prop} {a:Act} {w:World} (hy:YG P ops fl oi v a w) (h:NK P ops Q' j K (a.put oi.dst v) w):
  NK P ops Q' j (fun a' w'=>YG P ops fl oi v a' w'∧K (a'.put oi.dst v) w') a w:=by
 obtain⟨h1,h2,h3⟩:=Oper.apart_spec hap;have hnl:LetsOut Q'->False:=fun⟨_,_,h⟩=>by have:=hQ _ _ _ h;cases this
 unfold NK at*
 split
 ·rename_i hs;rw[hs]at h;have hf:=hk hs;simp only at h;unfold wpOp at*
  simp only[hj]at*
  rw[wanted_put oj a oi.dst v h1]at h;split
  ·rename_i hw;rw[AM hw]at h;rcases h with h|h
   ·left
    unfold Oper.wp at*
    rw[execOp_put oj hsj a oi.dst v h1]at h;have hYf:fl=true->∀(u:Value)(w':World),YG P ops fl oi v (a.put oj.dst u) w':=fun hf u w'=>hy.put hsi h3 (.inr hf);have hYv:∀(x:Value)(w':World),(execOp a.eval oj).run P w=.ok (.value x) w'->∀u,YG P ops fl oi v (a.put oj.dst u) w':=fun x w' hr u=>by
     rcases hf with hf|hf
     ·exact hYf hf u w'
     ·exact hy.put hsi h3 (.inl (Ud hf hr).1)
    have hYo:∀(n:Next)(w':World),(execOp a.eval oj).run P w=.ok n w'->(∀x,n≠.value x)->∀u w'',YG P ops fl oi v (a.put oj.dst u) w'':=fun n w' hr hn u w''=>by
     rcases hf with hf|hf
     ·exact hYf hf u w''
     ·obtain⟨x,hx⟩:=(Ud hf hr).2;exact absurd hx (hn x)
    generalize(execOp a.eval oj).run P w=r at*
    cases r with
    |ok n w'=>
     cases n with
     |value u=>exact⟨hYv u w' rfl u,by rw[<-Act.put_comm a v u h2];exact h⟩
     |skip=>exact⟨hYo _ w' rfl (fun x hx=>by cases hx) undef w',by rw[<-Act.put_comm a v undef h2];exact h⟩
     |defer D=>
      have h':K (({a.put oi.dst v with defers:=D::(a.put oi.dst v).defers}:Act).put oj.dst undef) w':=h;rw[ZP,Act.put_comm _ v undef h2]at h';refine⟨?_,h'⟩;have hq:=hYo _ w' rfl (fun x hx=>by cases hx) undef w';cases hd:oj.dst with
      |none=>rw[hd]at hq;exact hq
      |some t=>rw[hd]at hq;exact hq
     |enter f args=>
      refine Calls.mono h fun e w'' he=>?_;cases e with
      |returned u=>exact⟨hYo _ w' rfl (fun x hx=>by cases hx) u w'',by rw[<-Act.put_comm a v u h2];exact he⟩
      |panicked c=>have:=hQ _ _ _ he;cases this
      |outgrown=>exact he
     |row r args=>exact Rows.mono h fun u w'' he=>⟨hYo _ w' rfl (fun x hx=>by cases hx) u w'',by rw[<-Act.put_comm a v u h2];exact he⟩
     |_=>simp only[Oper.upon]at h
    |halt y w'=>
     cases y<;>simp only[Oper.upon]at h⊢;have:=hQ _ _ _ h;cases this
   ·exact(hnl h.2).elim
  ·rename_i hw;rw[AL hw]at h;exact⟨hy.put hsi h3 (.inl (Below.refl _ _)),by rw[<-Act.put_comm a v undef h2];exact h⟩
 ·rename_i hs;rw[hs]at h;simp only at h;unfold stOp at*
  simp only[hj]at*
  rw[wanted_put oj a oi.dst v h1]at h;split
  ·rename_i hw;rw[AM hw]at h;unfold Oper.still at*
   rw[execOp_put oj hsj a oi.dst v h1]at h;generalize(execOp a.eval oj).run P w=r at*
   cases r with
   |ok n w'=>
    cases n<;>simp only[Oper.stillUpon]at h⊢
    case value u=>exact⟨h.1,hy.put hsi h3 (.inl (Below.refl _ _)),by rw[<-Act.put_comm a v u h2];exact h.2⟩
    case skip=>exact⟨h.1,hy.put hsi h3 (.inl (Below.refl _ _)),by rw[<-Act.put_comm a v undef h2];exact h.2⟩
    case enter f args=>
     obtain⟨hw',u,hc,hn⟩:=h;exact⟨hw',u,hc,hy.put hsi h3 (.inl (Below.refl _ _)),by rw[<-Act.put_comm a v u h2];exact hn⟩
   |halt x w'=>simp only[Oper.stillUpon]at h
  ·rename_i hw;rw[AL hw]at h;exact⟨hy.put hsi h3 (.inl (Below.refl _ _)),by rw[<-Act.put_comm a v undef h2];exact h⟩
def qX(hQ:∀e a w,Q' e a w->e=.normal){Q:Act->World->Prop}{i:Nat}{oi:Oper}{v:Value}{fl:Bool}(hi:ops[i]? =some oi)(hst:TJ ops i=false)(hsel:∀(j:Nat)(o:Oper) cs b,ops[j]? =some o->o.op≠.select cs b):
  ∀(f:Nat)(listed:Array Bool)(a:Act)(w:World),
   Clo md ops listed->(∀j oj,ops[j]? =some oj->j≠i->listed.getD j true=false->FN md ops 12 j i=false->oi.apart ops oj=true∧(TJ ops j=true->fl=true∨iE oj.op=true))->
   i∈Region.ready md ops listed->YG P ops fl oi v a w->VO P md ops Q' Q f (listed.setIfInBounds i true) (a.put oi.dst v) w->VO P md ops Q' Q (f+1) listed a w:=by
 have self:∀(K:Act->World->Prop)(a:Act)(w:World),YG P ops fl oi v a w->K (a.put oi.dst v) w->NK P ops Q' i K a w:=fun K a w hy H=>by
  unfold NK;simp only[hst];exact(hy.1 w (Below.refl _ _)).stOp hi H
 intro f
 induction f with
 |zero=>
  intro listed a w _ _ hr hy H;refine⟨fun h=>(by rw[h]at hr;cases hr),fun j hj=>?_⟩;by_cases hji:j=i
  ·subst hji;exact self _ _ _ hy H
  ·have:=ready_mono hj hji;rw[H.1]at this;cases this
 |succ f ih=>
  intro listed a w inv hfree hr hy H;have hun:=(mem_ready.1 hr).1;refine⟨fun h=>(by rw[h]at hr;cases hr),fun j hj=>?_⟩;by_cases hji:j=i
  ·subst hji;exact self _ _ _ hy H
  ·have h1:=H.2 j (ready_mono hj hji);obtain⟨hjun,oj,hoj,hall⟩:=mem_ready.1 hj;have hnot:FN md ops 12 j i=false:=by
    cases hw:FN md ops 12 j i with
    |false=>rfl
    |true=>exact absurd hj (O7 inv hun 12 j hw).2
   obtain⟨q1,q2⟩:=hfree j oj hoj hji hjun hnot;have h2:=lY hQ hoj q1 q2 (fun cs b=>hsel i oi cs b hi) (fun cs b=>hsel j oj cs b hoj) hy h1;refine Zk (fun a' w' h3=>ih (listed.setIfInBounds j true) a' w' (inv.set hj) (fun k ok hk hki hun2 hno=>hfree k ok hk hki ?_ hno) (ready_mono hr (Ne.symm hji)) h3.1 ?_) h2
   ·by_cases hjk:j=k
    ·subst hjk;exact hjun
    ·rw[getD_set_ne true hjk]at hun2;exact hun2
   ·rw[Array.setIfInBounds_comm _ _ hji];exact h3.2
def Ag4{o:Oper}{v:Value}{a:Act}{w:World}(hy:∀w',Below w.heap.size w w'->YieldsAt P ops w' o v a):YG P ops (LV P o) o v a w:=by
 refine⟨hy,fun hf w'=>?_⟩;rcases hy w (Below.refl _ _)with⟨hw,hv|⟨hv,hu⟩|⟨f,args,hv,hc⟩⟩|⟨hw,rfl⟩
 ·exact .inl ⟨hw,.inl ((H5 hf hv).2 w')⟩
 ·obtain⟨u,hu⟩:=(H5 hf hv).1;cases hu
 ·obtain⟨u,hu⟩:=(H5 hf hv).1;cases hu
 ·exact .inr ⟨hw,rfl⟩
def UY(hQ:∀e a w,Q' e a w->e=.normal){Q:Act->World->Prop}{Lq:Act->Prop}{g:Nat}{w:World}(hsel:∀(j:Nat)(o:Oper) cs b,ops[j]? =some o->o.op≠.select cs b):∀(hs:List Nat)(listed:Array Bool)(a:Act),Clo md ops listed->RD P md ops hs listed=true->
  iF P ops w Lq (hs.filterMap (ops[·]?)) a->(∀a',Lq a'->VO P md ops Q' Q g (FH hs listed) a' w)->VO P md ops Q' Q (hs.length+g) listed a w
 |[],listed,a,_,_,h,hL=>by rw[List.length_nil,AE];exact hL a h
 |k::ks,listed,a,inv,hB,h,hL=>by
  simp only[RD,A2]at hB;obtain⟨⟨hr,hk⟩,hB'⟩:=hB;split at hk
  ·rename_i ok hok;simp only[A2,Bool.not_eq_true']at hk;obtain⟨hst,hp⟩:=hk;rw[List.filterMap_cons_some (by exact hok)]at h;obtain⟨v,hy,hrest⟩:=h;have hr':k∈Region.ready md ops listed:=by simpa using hr
   have:=qX hQ (md:=md) (Q:=Q) hok hst hsel (ks.length+g) listed a w inv (fun j oj hj hjk hun hno=>by
    have h1:=List.all_eq_true.1 hp j (List.mem_range.2 (A1.1 hj).1);simp only[Bool.or_eq_true,hj,A2,Bool.not_eq_true']at h1;rcases h1 with((h1|h1)|h1)|h1
    ·exact absurd (AF h1) hjk
    ·rw[hun]at h1;cases h1
    ·rw[hno]at h1;cases h1
    ·exact⟨h1.1,fun hs=>h1.2.elim (fun h=>h.elim (fun h2=>by rw[hs]at h2;cases h2) .inl) .inr⟩) hr' (Ag4 hy) (UY hQ hsel ks _ _ (inv.set hr') hB' hrest hL)
   rw[List.length_cons,show ks.length+1+g=ks.length+g+1 by omega];exact this
  ·cases hk
def UH{Q:Act->World->Prop}(hQ:∀e a w,Q' e a w->e=.normal∧Q a w):∀(ts:List Nat)(listed:Array Bool)(a:Act)(w:World),GH md ops ts listed=true->
  wpList P ops Q' (ts.filterMap (ops[·]?)) a w->VO P md ops Q' Q ts.length listed a w
 |[],listed,a,w,hB,h=>⟨by simpa [GH]using hB,(hQ _ _ _ h).2⟩
 |t::ts,listed,a,w,hB,h=>by
  simp only[GH,A2,A3]at hB;obtain⟨⟨hr,ht⟩,hB'⟩:=hB;obtain⟨ht0,ht⟩:=ht;cases ho:ops[t]? with
  |some o=>
   rw[List.filterMap_cons_some (by exact ho)]at h;refine⟨fun h1=>(by rw[hr]at h1;cases h1),fun i hi=>?_⟩;rw[hr]at hi;obtain rfl:i=t:=by simpa using hi
   unfold NK;simp only[ht];have h':wpOp P ops Q' i (wpList P ops Q' (ts.filterMap (ops[·]?))) a w:=by
    unfold wpOp;simp only[ho];exact h
   exact wpOp_mono (fun a' w' h3=>UH hQ ts _ _ _ hB' h3) h'
  |none=>rw[ho]at ht0;cases ht0
def OJ{id:Nat}{Q:Exit->Act->World->Prop}{a:Act}{w:World}(hm:P.follows .mixedOrders=true)(hB:Am2 P .any ops=true)(hQ:∀e a w,Q' e a w->e=.normal∧Q .normal a w)
  (h:iF P ops {w with drawn:=w.drawn+1} (fun a'=>wpList P ops Q' ((Q7 ops).filterMap (ops[·]?)) a' {w with drawn:=w.drawn+1}) ((GN ops).filterMap (ops[·]?)) a):(Code.region id ops true).wp P Q a w:=by
 simp only[Am2,A2]at hB;obtain⟨⟨⟨hsel,hlen⟩,hh⟩,ht⟩:=hB;refine wp_region_any hm ?_;rw[<-AF hlen];refine IK (fun e a w he=>by obtain⟨rfl,h⟩:=hQ e a w he;exact h) _ _ _ _ (MP (Q':=Q') (Q:=fun a w=>Q' .normal a w) (fun _ _ h=>h) _ _ _ _ ?_);have e:Array.replicate ((GN ops).length+(Q7 ops).length) false=Array.replicate ops.size false:=by rw[AF hlen]
 rw[e];exact UY (fun e a w h=>(hQ e a w h).1) (Region.noSelect_spec hsel) _ _ _ Clo.none hh h fun a' ha'=>UH (fun e a w h=>⟨(hQ e a w h).1,by obtain⟨rfl,_⟩:=hQ e a w h;exact h⟩) _ _ _ _ ht ha'
end
end Go.Ev

/- A part of the proof of PrintTexts. No conditions. -/
import Derived.Test.YtnljjjghpgdmoaaGreatDoorXaa
import Derived.ChangeKeysEq
import Derived.MapKept
import Derived.Laws.CopyRow
import Derived.Laws.IdiomCopy
import Derived.Deep.AppendSrc
import Derived.Laws.MakeOwn
set_option linter.all false
namespace Go.Ev
open Go.RowKit
section
variable{P:Program}{mem:M_}{ρ:Map}{B N:Nat}{w:World}
def Ep{t:TypeId}{xs ys:Array Value}{off:Nat}{v:Value}(h:MM P t xs.toList off=some v)(hs:xs.size=ys.size)
  (hx:∀(i:Nat)(x y:Value),xs[i]? =some x->ys[i]? =some y->V ρ N x y):∃cv,V ρ N v cv∧∀w:World,(part t ys off).run P w=.ok cv w:=by
 unfold MM at h;split at h
 ·rename_i i hi ha;cases h;refine⟨.agg (ys.extract off (off+i.size)),.agg z_ fun k x y hk hy=>?_,fun w=>by simp[part,Jc ha,run_sizeOf hi]⟩;simp only[List.getElem?_toArray]at hk;have hk':k<i.size:=by have:=(A0.1 hk).1;simp at this;omega
  rw[take_drop_getElem? _ _ _ _ hk']at hk;rw[Array.getElem?_extract]at hy;split at hy
  ·exact hx (off+k) x y (by simpa using hk) hy
  ·cases hy
 ·rename_i i hi ha;have h2:xs[off]? =some v:=by simpa using h
  have hlt:off<ys.size:=by rw[<-hs];exact(A1.1 h2).1
  exact⟨ys[off],hx off v _ h2 (AJ hlt),fun w=>by simp[part,Jc ha,hlt]⟩
 ·cases h
def TA{t:TypeId}{i:TypeInfo}(h:P.info? t=some i):P.cellsOf t=i.size:=by simp[Program.cellsOf,h]
def Jp:∀(d:Nat)(t:TypeId)(x y cx cy:Value)(b:Bool),Zh P d t x y=some b->V ρ N x cx->V ρ N y cy->∀w:World,(Op.equalIn d t cx cy).run P w=.ok b w:=by
 intro d
 induction d with
 |zero=>intro t x y cx cy b h;simp[Zh]at h
 |succ d ih=>
  intro t x y cx cy b h hx hy w;simp only[Zh]at h;split at h
  ·rename_i a a' hu;cases hx;cases hy;cases h;exact run_equalIn_bool' w d t _ _ hu
  ·rename_i k k1 a k2 b' hu;split at h
   ·rename_i hk;cases h;subst hk;cases hx;cases hy;exact run_equalIn_int w d t _ _ _ _ hu
   ·cases h
  ·rename_i a b' hu;cases hx;cases hy;cases h;rw[run_equalIn_string w d t _ _ hu,beq_toListBytes]
  ·rename_i fields xs ys hu;cases hx with
   |agg hs1 hx=>
   rename_i xs';cases hy with
   |agg hs2 hy=>
   rename_i ys';split at h
   ·cases h
   ·rename_i hst;have hf:P.fieldsOf t=fields:=by simp[Program.fieldsOf,hu]
    rw[run_equalIn_struct w d t xs' ys' (by rw[hf];exact hu) (by simpa using hst),hf];revert h;generalize fields.toList=fs;clear hf hu
    induction fs generalizing b w with
    |nil=>intro h;simp at h;subst h;simp[Op.eqFields]
    |cons f fs ihf=>
     intro h;simp only[List.foldr_cons]at h;split at h
     ·cases h
     ·rename_i hname;split at h
      ·rename_i p q hp hq;split at h
       ·rename_i u v hu hv;cases h;obtain⟨cp,hcp,hrp⟩:=Ep hp hs1 hx;obtain⟨cq,hcq,hrq⟩:=Ep hq hs2 hy;have he:=ih _ _ _ _ _ _ hu hcp hcq w;simp only[Op.eqFields,AM (show f.name≠"_" from hname),Sem.run_bind,hrp,hrq,he,Result.andThen_ok];cases u with
        |true=>simpa using ihf v w hv
        |false=>simp
       ·cases h
      ·cases h
  ·rename_i len elem xs ys hu;cases hx with
   |agg hs1 hx=>
   rename_i xs';cases hy with
   |agg hs2 hy=>
   rename_i ys';split at h
   ·rename_i i hi;rw[run_equalIn_array w d xs' ys' hu hi,TA hi];revert h;generalize List.range len=is
    induction is generalizing b w with
    |nil=>intro h;simp at h;subst h;simp[Op.eqItems]
    |cons n is ihf=>
     intro h;simp only[List.foldr_cons]at h;split at h
     ·rename_i p q hp hq;split at h
      ·rename_i u v hu hv;cases h;obtain⟨cp,hcp,hrp⟩:=Ep hp hs1 hx;obtain⟨cq,hcq,hrq⟩:=Ep hq hs2 hy;have he:=ih _ _ _ _ _ _ hu hcp hcq w;simp only[Op.eqItems,Sem.run_bind,hrp,hrq,he,Result.andThen_ok];cases u with
       |true=>simpa using ihf v w hv
       |false=>simp
      ·cases h
     ·cases h
   ·cases h
  ·cases h
def Lr{α:Type}{b:Bool}{y:Option α}{r:α}(h:br b none y=some r):b=false∧y=some r:=by cases b<;>simp[br]at h⊢;exact h
def BZ{α:Type}{b:Bool}{y:Option α}{r:α}(h:br b y none=some r):b=true∧y=some r:=by cases b<;>simp[br]at h⊢;exact h
def J9(op:BinOp)(k yk:IntKind)(a b:Int)(hb:¬b<0)(w:World)(hop:op=.shl∨op=.shr):
  (Op.shift op k a yk b).run P w=.ok (if op=.shl then .int k (k.wrap (a*2^(min b.toNat k.bits)))else .int k (a.fdiv (2^(min b.toNat k.bits)))) w:=by
 rcases hop with rfl|rfl<;>simp[Op.shift,hb]
def V3{α:Type}{op:BinOp}{t:TypeId}{x y cx cy:Value}{ox oy:Operand}{k:Value->Option α}{r:α}(h:Aiz P op t x y k=some r)(hx:V ρ N x cx)(hy:V ρ N y cy):
  ∃v,k v=some r∧V ρ N v v∧∀w:World,(do eqGuard op t ox oy cx cy;binOp op t cx cy:Sem Value).run P w=.ok v w:=by
 unfold Aiz at h;split at h
 ·rename_i kd a kd' b;cases hx;cases hy;have hg:∀w:World,(eqGuard op t ox oy (.int kd a) (.int kd' b)).run P w=.ok () w:=by intro w;cases op<;>simp[eqGuard]
  split at h
  ·obtain⟨hb,hk⟩:=Lr h;have hb':¬b<0:=by simpa using hb
   exact⟨_,hk,.int,fun w=>by simp[hg,binOp,J9 .shl kd kd' a b hb' w (.inl rfl)]⟩
  ·obtain⟨hb,hk⟩:=Lr h;have hb':¬b<0:=by simpa using hb
   exact⟨_,hk,.int,fun w=>by simp[hg,binOp,J9 .shr kd kd' a b hb' w (.inr rfl)]⟩
  ·rename_i hs1 hs2;split at h
   ·cases h
   ·rename_i hkk;have hkk':kd=kd':=by simpa using hkk
    subst hkk';split at h
    ·exact⟨_,h,.int,fun w=>by simp[binOp,Op.intArith,eqGuard]⟩
    ·exact⟨_,h,.int,fun w=>by simp[binOp,Op.intArith,eqGuard]⟩
    ·exact⟨_,h,.int,fun w=>by simp[binOp,Op.intArith,eqGuard]⟩
    ·obtain⟨hb,hk⟩:=Lr h;have hb':¬b=0:=by simpa using hb
     exact⟨_,hk,.int,fun w=>by simp[binOp,Op.intDiv,eqGuard,hb']⟩
    ·obtain⟨hb,hk⟩:=Lr h;have hb':¬b=0:=by simpa using hb
     exact⟨_,hk,.int,fun w=>by simp[binOp,Op.intDiv,eqGuard,hb']⟩
    ·exact⟨_,h,.bool,fun w=>by simp[binOp,Op.intCmp,eqGuard]⟩
    ·exact⟨_,h,.bool,fun w=>by simp[binOp,Op.intCmp,eqGuard]⟩
    ·exact⟨_,h,.bool,fun w=>by simp[binOp,Op.intCmp,eqGuard]⟩
    ·exact⟨_,h,.bool,fun w=>by simp[binOp,Op.intCmp,eqGuard]⟩
    ·exact⟨_,h,.bool,fun w=>by simp[binOp,Op.intCmp,eqGuard]⟩
    ·exact⟨_,h,.bool,fun w=>by simp[binOp,Op.intCmp,eqGuard]⟩
    ·split at h
     ·rename_i m hm;unfold Ae8 at hm;split at hm<;>first|cases hm|skip
      all_goals exact⟨_,h,.int,fun w=>by simp[binOp,Op.intBits,eqGuard]⟩
     ·cases h
 ·rename_i a b;cases hx;cases hy;split at h
  ·obtain⟨hb,hk⟩:=Lr h;have hb':¬(((a.size+b.size:Nat):Int)>IntKind.i64.max):=by simpa using hb
   exact⟨_,hk,.str,fun w=>by
    have:binOp .add t (.string a) (.string b)=pure (.string (a++b)):=by
     simp only[binOp,Op.stringOp];rw[AL hb']
    simp[eqGuard,this]⟩
  ·exact⟨_,h,.bool,fun w=>by simp[binOp,Op.stringOp,eqGuard]⟩
  ·exact⟨_,h,.bool,fun w=>by simp[binOp,Op.stringOp,eqGuard]⟩
  ·exact⟨_,h,.bool,fun w=>by simp[binOp,Op.stringOp,eqGuard]⟩
  ·exact⟨_,h,.bool,fun w=>by simp[binOp,Op.stringOp,eqGuard]⟩
  ·exact⟨_,h,.bool,fun w=>by simp[binOp,Op.stringOp,eqGuard]⟩
  ·exact⟨_,h,.bool,fun w=>by simp[binOp,Op.stringOp,eqGuard]⟩
  ·cases h
 ·split at h
  ·split at h
   ·rename_i b hb;cases hx;have he:=Jp _ _ _ _ _ _ _ hb (ρ:=ρ) (N:=N) .bool hy;refine⟨_,h,.bool,fun w=>?_⟩;rw[eqGuard_at_bool];simp only[Sem.run_bind,Sem.run_pure,Result.andThen_ok];cases hy<;>simp[binOp,Op.equal,he]<;>simp[Op.maxDepth,Zh]at hb
   ·cases h
  ·split at h
   ·rename_i b hb;cases hx;have he:=Jp _ _ _ _ _ _ _ hb (ρ:=ρ) (N:=N) .bool hy;refine⟨_,h,.bool,fun w=>?_⟩;rw[eqGuard_at_bool];simp only[Sem.run_bind,Sem.run_pure,Result.andThen_ok];cases hy<;>simp[binOp,Op.equal,he]<;>simp[Op.maxDepth,Zh]at hb
   ·cases h
  ·split at h
   ·cases h
   ·rename_i hgt;split at h
    ·rename_i b hb;have he:=Jp _ _ _ _ _ _ _ hb hx hy;cases hx with
     |agg hs1 hx=>
     refine⟨_,h,.bool,fun w=>?_⟩;cases hy with
     |agg hs2 hy=>
      have hg:=run_eqGuard_agg (P:=P) w .eql t ox oy;simp[hg _ _ (by simpa using hgt),binOp,Op.equal,he]
     |_=>simp[Op.maxDepth,Zh]at hb
    ·cases h
  ·split at h
   ·cases h
   ·rename_i hgt;split at h
    ·rename_i b hb;have he:=Jp _ _ _ _ _ _ _ hb hx hy;cases hx with
     |agg hs1 hx=>
     refine⟨_,h,.bool,fun w=>?_⟩;cases hy with
     |agg hs2 hy=>
      have hg:=run_eqGuard_agg (P:=P) w .neq t ox oy;simp[hg _ _ (by simpa using hgt),binOp,Op.equal,he]
     |_=>simp[Op.maxDepth,Zh]at hb
    ·cases h
  ·cases h
end
open Go.MapKept
section
variable{P:Program}{mem:M_}{ρ:Map}{B:Nat}{w:World}
def GY(L:Loc)(e i:Nat):(L.adr e 0).add (i*L.sz)=L.adr (e+i) 0:=by
 unfold Loc.adr Addr.add;split
 ·rename_i h;simp[Nat.add_mul,h]
 ·simp[Nat.add_mul,Nat.add_assoc]
def BX(hm:MemR mem ρ B w){id:Nat}{b:Blk}(hb:mem[id]? =some (some b)):ρ id≠none:=by
 obtain⟨L,hL,_⟩:=hm.blk id b hb;rw[hL];exact Option.some_ne_none _
def EX(a:Act)(o:Oper)(c:Call)(b:Builtin)(ho:o.op=.call c)(hc:c.callee=.builtin b):∃consts,∀w:World,(execOp a.eval o).run P w=(builtin b c.argTypes o.type consts (c.args.map a.eval)).run P w:=by
 refine⟨c.args.map fun|.const _=>true|_=>false,fun w=>?_⟩;simp only[execOp,ho,resolve,hc,Sem.run_bind,Sem.run_pure,Result.andThen_ok,invoke];rfl
def KL{α:Type}(hm:MemR mem ρ B w){ea:Operand->Value}{a:Act}(hE:∀x,V ρ mem.length (ea x) (a.eval x)){o:Oper}{k:Value->Option α}{r:α}(h:JP P mem ea o k=some r):
  ∃v cv,k v=some r∧V ρ mem.length v cv∧∀w',Below w.heap.size w w'->(execOp a.eval o).run P w'=.ok (.value cv) w':=by
 unfold JP at h;split at h
 ·rename_i x ho;exact⟨_,_,h,hE x,fun w' _=>by simp[execOp,ho]⟩
 ·rename_i x ho;exact⟨_,_,h,hE x,fun w' _=>by simp[execOp,ho]⟩
 ·rename_i c x y ho;have hc:=hE c;split at h
  ·rename_i b hb;rw[hb]at hc;generalize hcc:a.eval c=cc at hc;cases hc;cases b with
   |true=>exact⟨_,_,h,hE x,fun w' _=>by simp[execOp,ho,hcc,asBool]⟩
   |false=>exact⟨_,_,h,hE y,fun w' _=>by simp[execOp,ho,hcc,asBool]⟩
  ·cases h
 ·rename_i t x ho;split at h
  ·rename_i v hv;obtain⟨cv,h1,h2⟩:=MJ hm hv (hE x);exact⟨v,cv,h,h1,fun w' hw'=>by simp[execOp,ho,h2 w' hw']⟩
  ·cases h
 ·rename_i x ho;have hx:=hE x;split at h
  ·rename_i p hp;rw[hp]at hx;generalize hcc:a.eval x=cc at hx;cases hx with
   |ptrDead h1 h2=>exact⟨_,a.eval x,h,by rw[hcc];exact .ptrDead h1 h2,fun w' _=>by simp[execOp,ho,hcc]⟩
   |ptr h1 h2 h3=>exact⟨_,a.eval x,h,by rw[hcc];exact .ptr h1 h2 h3,fun w' _=>by simp[execOp,ho,hcc]⟩
  ·cases h
 ·rename_i op t x y yt ho;obtain⟨v,h1,h2,h3⟩:=V3 (ox:=x) (oy:=y) h (hE x) (hE y);exact⟨v,v,h1,h2,fun w' _=>by
   simp only[execOp,ho];rw[Sem.run_bind,h3];rfl⟩
 ·rename_i op t x ho;have hx:=hE x;split at h
  ·rename_i b hb;rw[hb]at hx;generalize hcc:a.eval x=cc at hx;cases hx;exact⟨_,_,h,.bool,fun w' _=>by simp[execOp,ho,hcc,Op.unary]⟩
  ·rename_i kd n hb;rw[hb]at hx;generalize hcc:a.eval x=cc at hx;cases hx;exact⟨_,_,h,.int,fun w' _=>by simp[execOp,ho,hcc,Op.unary,Op.intArith]⟩
  ·cases h
 ·rename_i src dst x ho;have hx:=hE x;split at h
  ·rename_i v hv;unfold Adh at hv;split at hv
   ·rename_i d kd k' n hs hd hn;cases hv;rw[hn]at hx;generalize hcc:a.eval x=cc at hx;cases hx;exact⟨_,_,h,.int,fun w' _=>by simp[execOp,ho,hcc,convert,run_underlying hs,run_underlying hd,Conv.intToInt]⟩
   ·rename_i d s hs hd hn;cases hv;rw[hn]at hx;generalize hcc:a.eval x=cc at hx;cases hx;exact⟨_,_,h,.str,fun w' _=>by simp[execOp,ho,hcc,convert,run_underlying hs,run_underlying hd]⟩
   ·cases hv
  ·cases h
 ·rename_i t x i ho;have hx:=hE x;split at h
  ·rename_i fs id e j hu hp;rw[hp]at hx;split at h
   ·rename_i f hf;split at h
    ·rename_i fi hfi;split at h
     ·cases h
     ·rename_i hsz;generalize hcc:a.eval x=cc at hx;have hrun:∀(p:Addr)(w':World),a.eval x=.pointer (some p)->(execOp a.eval o).run P w'=.ok (.value (.pointer (some (p.add f.offset)))) w':=by
       intro p w' hp';simp[execOp,ho,hp',Instr.fieldAt,run_underlying hu,hf,Instr.sureAddr,fieldPlace,run_sizeOf hfi,hsz]
      cases hx with
      |ptrDead h1 h2=>exact⟨_,_,h,.ptrDead h1 h2,fun w' _=>hrun _ w' hcc⟩
      |ptr h1 h2 h3=>
       refine⟨_,_,h,.ptr h1 h2 h3,fun w' _=>?_⟩;rw[hrun _ w' hcc,Loc.adr_add]
    ·cases h
   ·cases h
  ·cases h
 ·rename_i t x i ho;have hx:=hE x;split at h
  ·rename_i fs cs hu hp;rw[hp]at hx;split at h
   ·rename_i f hf;split at h
    ·rename_i v hv;generalize hcc:a.eval x=cc at hx;cases hx with
     |agg hs hx=>
     obtain⟨cv,h1,h2⟩:=Ep hv hs hx;exact⟨v,cv,h,h1,fun w' _=>by simp[execOp,ho,hcc,Instr.field,run_underlying hu,hf,asAgg,h2]⟩
    ·cases h
   ·cases h
  ·cases h
 ·rename_i t x i ho;have hx:=hE x;have hi:=hE i;split at h
  ·rename_i el id e len c kd n hu hp hn;rw[hp]at hx;rw[hn]at hi;split at h
   ·rename_i ei b hei hb;split at h
    case h_2=>cases h
    rename_i ks rr hro;split at h
    ·rename_i hsz;obtain⟨hcond,hk⟩:=BZ h;simp only[A2,A3]at hcond;generalize hcc:a.eval x=cc at hx;generalize hci:a.eval i=ci at hi;cases hi;obtain⟨L',hL',hbr⟩:=hm.blk _ _ hb;cases hx with
     |sliceDead h1 h2=>exact absurd h2 (BX hm hb)
     |@slice _ _ _ L a' cap h1 h2 h3 h4 h5 h6=>
      have hLL:L'=L:=by rw[h2]at hL';exact(Option.some.inj hL').symm
      rw[hLL]at hbr;have ha':a'=some (L.adr e 0):=h5 o_;subst ha';have hLsz:L.sz=ei.size:=by rw[(hbr.shape hro).2,hsz]
      refine⟨_,_,hk,.ptr (L:=L) (j:=0) h1 h2 o_,fun w' _=>?_⟩;simp only[execOp,ho,hcc,hci];simp[Instr.indexAt,run_underlying hu,asIntOf,hcond,run_sizeOf hei];rw[<-hLsz,GY]
    ·cases h
   ·cases h
  ·cases h
 ·rename_i t x i ho;have hx:=hE x;have hi:=hE i;split at h
  ·rename_i len el cs kd n hu hp hn;rw[hp]at hx;rw[hn]at hi;split at h
   ·rename_i ei hei;obtain⟨hcond,hk⟩:=BZ h;simp only[A2,A3]at hcond;obtain⟨q,hq,hk'⟩:=PO hk;subst hq;have hql:q<len:=o_;split at hk'
    ·rename_i v hv;generalize hcc:a.eval x=cc at hx;generalize hci:a.eval i=ci at hi;cases hi;cases hx with
     |agg hs hx=>
     obtain⟨cv,h1,h2⟩:=Ep hv hs hx;refine⟨v,cv,hk',h1,fun w' _=>?_⟩;simp only[execOp,ho,hcc,hci];simp[Instr.index,run_underlying hu,asIntOf,hcond,hql,run_sizeOf hei,h2]
    ·cases hk'
   ·cases h
  ·rename_i s kd n hu hp hn;rw[hp]at hx;rw[hn]at hi;obtain⟨hcond,hk⟩:=BZ h;simp only[A2,A3]at hcond;generalize hcc:a.eval x=cc at hx;generalize hci:a.eval i=ci at hi;cases hi;cases hx;refine⟨_,_,hk,.int,fun w' _=>?_⟩;have hlt:n.toNat<s.size:=o_;have hget:s[n.toNat]? =some (s.data.getD n.toNat 0):=by
    rw[show s[n.toNat]? =some s[n.toNat]from getElem?_pos s n.toNat hlt]
    congr 1
    have hlt':n.toNat<s.data.size:=hlt;rw[Array.getD_eq_getD_getElem?,AJ hlt',Option.getD_some];rfl
   simp only[execOp,ho,hcc,hci,Instr.index,Sem.run_bind,run_underlying hu,asIntOf,Sem.run_pure,Result.andThen_ok,AM hcond.1,hget]
  ·cases h
 ·rename_i x i ho;have hx:=hE x;split at h
  ·rename_i vs hp;rw[hp]at hx;split at h
   ·rename_i v hv;generalize hcc:a.eval x=cc at hx;cases hx with
    |tuple hs hx=>
    rename_i ys;have hlt:i<ys.size:=by rw[<-hs];exact(A1.1 hv).1
    exact⟨v,ys[i],h,hx i v _ hv (AJ hlt),fun w' _=>by simp[execOp,ho,hcc,Instr.extract,hlt]⟩
   ·cases h
  ·cases h
 ·rename_i fn first captured ho
  refine⟨_,.func fn (first.map a.eval) (captured.map a.eval),h,.func y_ (fun i x y hx hy=>?_) y_ (fun i x y hx hy=>?_),fun w' _=>by simp[execOp,ho,Instr.makeFunc]⟩
  ·simp only[Array.getElem?_map,Option.map_eq_some_iff]at hx hy;obtain⟨p,hp,rfl⟩:=hx;obtain⟨q,hq,rfl⟩:=hy;rw[hp]at hq;cases hq;exact hE p
  ·simp only[Array.getElem?_map,Option.map_eq_some_iff]at hx hy;obtain⟨p,hp,rfl⟩:=hx;obtain⟨q,hq,rfl⟩:=hy;rw[hp]at hq;cases hq;exact hE p
 ·rename_i c ho;split at h
  ·rename_i hcal;split at h
   ·rename_i t x ht hxs;have hat:c.argTypes= #[t]:=by rw[<-Array.toArray_toList (xs:=c.argTypes),ht]
    have has:c.args= #[x]:=by rw[<-Array.toArray_toList (xs:=c.args),hxs]
    have hx:=hE x;obtain⟨consts,hb⟩:=EX (P:=P) a o c .len ho hcal;split at h
    ·rename_i el sa n sc hu hp;rw[hp]at hx;generalize hcc:a.eval x=cc at hx;have key:∀a' c',a.eval x=.slice a' n c'->∀w',(execOp a.eval o).run P w'=.ok (.value (.int .i64 (n:Int))) w':=by
      intro a' c' hh w';rw[hb,has,hat];simp[builtin,Builtin.len_,hh,run_underlying hu,goInt]
     cases hx with
     |sliceNil=>exact⟨_,_,h,.int,fun w' _=>key _ _ hcc w'⟩
     |sliceDead h1 h2=>
      exact⟨_,_,h,.int,fun w' _=>key _ _ hcc w'⟩
     |slice h1 h2 h3 h4 h5 h6=>exact⟨_,_,h,.int,fun w' _=>key _ _ hcc w'⟩
    ·rename_i s hu hp;rw[hp]at hx;generalize hcc:a.eval x=cc at hx;cases hx;refine⟨_,_,h,.int,fun w' _=>?_⟩;rw[hb,has,hat];simp[builtin,Builtin.len_,hcc,run_underlying hu,goInt]
    ·rename_i n el hu;refine⟨_,_,h,.int,fun w' _=>?_⟩;rw[hb,has,hat];simp[builtin,Builtin.len_,run_underlying hu,goInt]
    ·cases h
   ·cases h
  ·rename_i hcal;split at h
   ·rename_i kd x kd' y hl;obtain⟨consts,hb⟩:=EX (P:=P) a o c .min ho hcal;obtain⟨p,q,hpq⟩:∃p q,c.args.toList=[p,q]:=by
     have hlen:c.args.toList.length=2:=by have:=congrArg List.length hl;simpa using this
     match hc:c.args.toList,hlen with
     |[p,q],_=>exact⟨p,q,rfl⟩
    rw[hpq]at hl;simp only[List.map_cons,List.map_nil,List.cons.injEq,and_true]at hl;have has:c.args= #[p,q]:=by rw[<-Array.toArray_toList (xs:=c.args),hpq]
    have h1:=hE p;have h2:=hE q;rw[hl.1]at h1;rw[hl.2]at h2;generalize hc1:a.eval p=c1 at h1;generalize hc2:a.eval q=c2 at h2;cases h1;cases h2;refine⟨_,_,h,.int,fun w' _=>?_⟩;rw[hb,has];simp[builtin,Builtin.min_,hc1,hc2,Builtin.min2]
   ·cases h
  ·rename_i hcal;split at h
   ·rename_i kd x kd' y hl;obtain⟨consts,hb⟩:=EX (P:=P) a o c .max ho hcal;obtain⟨p,q,hpq⟩:∃p q,c.args.toList=[p,q]:=by
     have hlen:c.args.toList.length=2:=by have:=congrArg List.length hl;simpa using this
     match hc:c.args.toList,hlen with
     |[p,q],_=>exact⟨p,q,rfl⟩
    rw[hpq]at hl;simp only[List.map_cons,List.map_nil,List.cons.injEq,and_true]at hl;have has:c.args= #[p,q]:=by rw[<-Array.toArray_toList (xs:=c.args),hpq]
    have h1:=hE p;have h2:=hE q;rw[hl.1]at h1;rw[hl.2]at h2;generalize hc1:a.eval p=c1 at h1;generalize hc2:a.eval q=c2 at h2;cases h1;cases h2;refine⟨_,_,h,.int,fun w' _=>?_⟩;rw[hb,has];simp[builtin,Builtin.max_,hc1,hc2,Builtin.max2]
   ·cases h
  ·cases h
 ·rename_i t x lo hi mx ho;have hx:=hE x;have hbound:∀(o:Option Operand)(d:Int)(kd:IntKind)(n:Int),(o.map ea).getD (.int .i64 d)=.int kd n->o.map a.eval=none∧n=d∨∃kd,o.map a.eval=some (.int kd n):=by
   intro o d kd n h;cases o with
   |none=>simp at h;exact .inl ⟨rfl,h.2.symm⟩
   |some y=>
    simp at h;have hy:=hE y;rw[h]at hy;generalize hcy:a.eval y=cy at hy;cases hy;exact .inr ⟨kd,by simp[hcy]⟩
  have hsb:∀(kd:IntKind)(n:Int)(y:Nat)(code:BoundsCode)(w':World),0<=n->n<=(y:Int)->(Instr.sliceBound (.int kd n) y code).run P w'=.ok n.toNat w':=by
   intro kd n y code w' h1 h2;simp[Instr.sliceBound,asIntOf,h1,h2]
  split at h
  ·rename_i s hu hp;rw[hp]at hx;generalize hcc:a.eval x=cc at hx;cases hx;split at h
   ·rename_i kl l kh hh hl1 hh1;obtain⟨hc1,h⟩:=BZ h;obtain⟨hc2,h⟩:=BZ h;simp only[A2,A3]at hc1 hc2;refine⟨_,_,h,.str,fun w' _=>?_⟩;have e1:(Instr.sliceBounds false s.size s.size (lo.map a.eval) (hi.map a.eval) none).run P w'=.ok (l.toNat,hh.toNat,s.size) w':=by
     rcases hbound _ _ _ _ hl1 with⟨q1,q2⟩|⟨kd1,q1⟩<;>rcases hbound _ _ _ _ hh1 with⟨p1,p2⟩|⟨kd2,p1⟩
     ·simp[Instr.sliceBounds,q1,p1,q2,p2]
     ·simp[Instr.sliceBounds,q1,p1,q2,hsb _ _ _ _ _ hc1.1 hc1.2]
     ·subst p2;simp[Instr.sliceBounds,q1,p1,hsb kd1 l s.size .sliceB w' hc2.1 (by simpa using hc2.2)]
     ·simp[Instr.sliceBounds,q1,p1,hsb _ _ _ _ _ hc1.1 hc1.2,hsb kd1 l hh.toNat .sliceB w' hc2.1 hc2.2]
    simp only[execOp,ho,hcc,Option.map_none];simp[Instr.sliceAt,Instr.slice,run_underlying hu,e1]
   ·cases h
  ·rename_i el id e len hu hp;rw[hp]at hx;generalize hcc:a.eval x=cc at hx;split at h
   ·rename_i ei b hei hb;split at h
    case h_2=>cases h
    rename_i ks rr hro;split at h
    ·rename_i hsz;split at h
     ·rename_i kl l kh hh hl1 hh1;obtain⟨hc1,h⟩:=BZ h;obtain⟨hc2,h⟩:=BZ h;simp only[A2,A3]at hc1 hc2;obtain⟨L',hL',hbr⟩:=hm.blk _ _ hb;cases hx with
      |sliceDead h1 h2=>exact absurd h2 (BX hm hb)
      |@slice _ _ _ L a' cap h1 h2 h3 h4 h5 h6=>
       have hLL:L'=L:=by rw[h2]at hL';exact(Option.some.inj hL').symm
       rw[hLL]at hbr;have hLsz:L.sz=ei.size:=by rw[(hbr.shape hro).2,hsz]
       have hcap:hh<=(cap:Int):=o_;have e1:∀w',(Instr.sliceBounds true len cap (lo.map a.eval) (hi.map a.eval) none).run P w'=.ok (l.toNat,hh.toNat,cap) w':=by
        intro w';rcases hbound _ _ _ _ hl1 with⟨q1,q2⟩|⟨kd1,q1⟩<;>rcases hbound _ _ _ _ hh1 with⟨p1,p2⟩|⟨kd2,p1⟩
        ·simp[Instr.sliceBounds,q1,p1,q2,p2]
        ·simp[Instr.sliceBounds,q1,p1,q2,hsb _ _ _ _ _ hc1.1 hcap]
        ·subst p2;simp[Instr.sliceBounds,q1,p1,hsb kd1 l len .sliceB w' hc2.1 (by simpa using hc2.2)]
        ·simp[Instr.sliceBounds,q1,p1,hsb _ _ _ _ _ hc1.1 hcap,hsb kd1 l hh.toNat .sliceB w' hc2.1 hc2.2]
       refine⟨_,_,h,.slice (L:=L) (cap:=cap-l.toNat) (a:=if cap=l.toNat then a' else a'.map (·.add (l.toNat*ei.size))) h1 h2 o_ o_ (fun hpos=>?_) (fun ho=>⟨by have:=(h6 ho).1;omega,?_⟩),fun w' _=>?_⟩
       ·have hcl:¬cap=l.toNat:=o_;rw[AL hcl,h5 o_,Option.map_some,<-hLsz,GY]
       ·by_cases hcl:cap=l.toNat
        ·exact .inl o_
        ·right
         rw[AL hcl];rcases(h6 ho).2 with h6|h6
         ·omega
         ·rw[h6,Option.map_some,<-hLsz,GY]
       ·simp only[execOp,ho,hcc,Option.map_none];simp[Instr.sliceAt,Instr.slice,run_underlying hu,e1,run_sizeOf hei]
     ·cases h
    ·cases h
   ·cases h
  ·rename_i el id e len mo hu hp;rw[hp]at hx;generalize hcc:a.eval x=cc at hx;split at h
   ·rename_i ei b hei hb;split at h
    case h_2=>cases h
    rename_i ks rr hro;split at h
    ·rename_i hsz;split at h
     ·rename_i kl l kh hh km m hl1 hh1 hm1;obtain⟨hc0,h⟩:=BZ h;obtain⟨hc1,h⟩:=BZ h;obtain⟨hc2,h⟩:=BZ h;simp only[A2,A3]at hc0 hc1 hc2;obtain⟨hio,hhi,hh2⟩:=Option.map_eq_some_iff.1 hh1;have hvh:=hE hio;rw[hh2]at hvh;generalize hch:a.eval hio=ch at hvh;cases hvh;have hvm:=hE mo;rw[hm1]at hvm;generalize hcm:a.eval mo=cm at hvm;cases hvm;obtain⟨L',hL',hbr⟩:=hm.blk _ _ hb;cases hx with
      |sliceDead h1 h2=>exact absurd h2 (BX hm hb)
      |@slice _ _ _ L a' cap h1 h2 h3 h4 h5 h6=>
       have hLL:L'=L:=by rw[h2]at hL';exact(Option.some.inj hL').symm
       rw[hLL]at hbr;have hLsz:L.sz=ei.size:=by rw[(hbr.shape hro).2,hsz]
       have hcap:m<=(cap:Int):=o_;have e1:∀w',(Instr.sliceBounds true len cap (lo.map a.eval) (hi.map a.eval) (some (.int km m))).run P w'=.ok (l.toNat,hh.toNat,m.toNat) w':=by
        intro w';rw[hhi,Option.map_some,hch];rcases hbound _ _ _ _ hl1 with⟨q1,q2⟩|⟨kd1,q1⟩
        ·simp[Instr.sliceBounds,q1,q2,hsb km m cap .slice3Acap w' hc0.1 hcap,hsb kh hh m.toNat .slice3B w' hc1.1 o_]
        ·simp[Instr.sliceBounds,q1,hsb km m cap .slice3Acap w' hc0.1 hcap,hsb kh hh m.toNat .slice3B w' hc1.1 o_,hsb kd1 l hh.toNat .slice3C w' hc2.1 hc2.2]
       refine⟨_,_,h,.slice (L:=L) (cap:=m.toNat-l.toNat) (a:=if m.toNat=l.toNat then a' else a'.map (·.add (l.toNat*ei.size))) h1 h2 o_ o_ (fun hpos=>?_) (fun ho=>⟨by have:=(h6 ho).1;omega,?_⟩),fun w' _=>?_⟩
       ·have hcl:¬m.toNat=l.toNat:=o_;rw[AL hcl,h5 o_,Option.map_some,<-hLsz,GY]
       ·by_cases hcl:m.toNat=l.toNat
        ·exact .inl o_
        ·right
         rw[AL hcl];rcases(h6 ho).2 with h6|h6
         ·omega
         ·rw[h6,Option.map_some,<-hLsz,GY]
       ·simp only[execOp,ho,hcc,Option.map_some,hcm];simp[Instr.sliceAt,Instr.slice,run_underlying hu,e1,run_sizeOf hei]
     ·cases h
    ·cases h
   ·cases h
  ·cases h
 ·cases h
end
end Go.Ev
namespace Go.Ev
open Go.RowKit
section
variable{P:Program}{mem mem':M_}{ρ ρ':Map}{B:Nat}{w w':World}
def V.cells{N:Nat}{x cx:Value}(h:V ρ N x cx)(hu:Iz x=false):(Bc x).length=cx.cells.size∧∀(i:Nat)(p q:Value),(Bc x)[i]? =some p->cx.cells[i]? =some q->V ρ N p q:=by
 have one:∀(x cx:Value),V ρ N x cx->Bc x=[x]->cx.cells= #[cx]->(Bc x).length=cx.cells.size∧∀(i:Nat)(p q:Value),(Bc x)[i]? =some p->cx.cells[i]? =some q->V ρ N p q:=by
  intro x cx hv h1 h2;rw[h1,h2];refine⟨rfl,fun i p q hp hq=>?_⟩;cases i with
  |zero=>simp at hp hq;subst hp;subst hq;exact hv
  |succ i=>simp at hp
 cases h with
 |unk=>simp[Iz]at hu
 |agg h1 h2=>exact⟨h1,fun i p q hp hq=>h2 i p q (by simpa [Bc]using hp) hq⟩
 |bool=>exact one _ _ .bool rfl rfl
 |int=>exact one _ _ .int rfl rfl
 |str=>exact one _ _ .str rfl rfl
 |ptrNil=>exact one _ _ .ptrNil rfl rfl
 |nilFunc=>exact one _ _ .nilFunc rfl rfl
 |nilIface=>exact one _ _ .nilIface rfl rfl
 |@iface s b c h1 h2=>
  cases b with
  |true=>
   obtain⟨t,x,rfl⟩:=h1 rfl;exact one _ _ (.iface h1 h2) rfl rfl
  |false=>
   obtain rfl:=h2 rfl;exact one _ _ (.iface h1 h2) rfl rfl
 |sliceNil=>exact one _ _ .sliceNil rfl rfl
 |mapDead h1 h2=>exact one _ _ (.mapDead h1 h2) rfl rfl
 |map h1 h2=>exact one _ _ (.map h1 h2) rfl rfl
 |ptrDead h1 h2=>exact one _ _ (.ptrDead h1 h2) rfl rfl
 |sliceDead h1 h2=>exact one _ _ (.sliceDead h1 h2) rfl rfl
 |ptr h1 h2 h3=>exact one _ _ (.ptr h1 h2 h3) rfl rfl
 |slice h1 h2 h3 h4 h5 h6=>exact one _ _ (.slice h1 h2 h3 h4 h5 h6) rfl rfl
 |tuple h1 h2=>exact one _ _ (.tuple h1 h2) rfl rfl
 |func h1 h2 h3 h4=>exact one _ _ (.func h1 h2 h3 h4) rfl rfl
def QS{N:Nat}{x cx:Value}(h:V ρ N x cx)(hx:cell1 x=true):cx.oneCell'=true:=by
 cases h with
 |@iface s b c h1 h2=>
  cases b with
  |true=>
   obtain⟨t,x,rfl⟩:=h1 rfl;rfl
  |false=>
   obtain rfl:=h2 rfl;rfl
 |_=>first|rfl|simp[cell1]at hx
def YC{x:Value}(h:(Bc x).all cell1=true):Iz x=false:=by
 cases x<;>first|rfl|simp[Bc,cell1]at h
def BlkR.box_mono{cells:List Value}{L:Loc}(hN:mem.length<=mem'.length)(hL:∀id,id<mem.length->Less ρ ρ' id)(hb:w'.heap[L.b]? =w.heap[L.b]?)(h:BlkR mem ρ w B L (.box cells)):BlkR mem' ρ' w' B L (.box cells):=by
 obtain⟨h1,h2,h3,h4,c,T,h5,h6,h7,h0⟩:=h;exact⟨h1,h2,h3,h4,c,T,hb.trans h5,h6,fun j x y hx hy=>(h7 j x y hx hy).mono hN hL,h0⟩
def BlkR.row_mono{ks:List CK}{own:Bool}{r:Row}{L:Loc}(hok:∀b,okB mem ρ w b->okB mem' ρ' w' b∧w'.heap[b]? =w.heap[b]?)(hb:own=true->0<L.tot->w'.heap[L.b]? =w.heap[L.b]?)
  (h:BlkR mem ρ w B L (.row ks own r)):BlkR mem' ρ' w' B L (.row ks own r):=by
 obtain⟨h1,h2,h3,h4,h0⟩:=h;refine⟨h1,h2,fun ho=>⟨(h3 ho).1,(h3 ho).2.1,fun ht=>?_⟩,fun hn=>⟨fun ho=>(hok _ ((h4 hn).1 ho)).1,?_⟩,h0⟩
 ·obtain⟨h5,c,T,h6,h7⟩:=(h3 ho).2.2 ht;exact⟨h5,c,T,(hb ho ht).trans h6,h7⟩
 ·have h5:=(h4 hn).2;refine h5.mono hok ?_;cases own with
  |false=>exact(hok _ ((h4 hn).1 rfl)).2
  |true=>exact hb rfl (by have:=(h3 rfl).2.1;omega)
def BlkR.foot_same{L:Loc}{blk:Blk}(hN:mem.length<=mem'.length)(hL:∀id,id<mem.length->Less ρ ρ' id)(hok:∀b,okB mem ρ w b->okB mem' ρ' w' b∧w'.heap[b]? =w.heap[b]?)
  (hf:blk.own=true->∀b,L.foot b->w'.heap[b]? =w.heap[b]?) (hup:Upb mem ρ w mem' ρ' w' blk) (hr:BlkR mem ρ w B L blk):BlkR mem' ρ' w' B L blk:=by
 cases blk with
 |box cells=>exact BlkR.box_mono hN hL (hf rfl _ (.inl ⟨hr.2.2.2.1,rfl⟩)) hr
 |row ks own r=>exact BlkR.row_mono hok (fun ho ht=>hf ho _ (.inl ⟨ht,rfl⟩)) hr
 |deep ks r h=>exact BlkR.deep_same (hf rfl) hr
 |bor p e j ks r=>exact BlkR.bor_same hup hr
 |map k I Bo=>
  obtain⟨h1,h2,h3,es,c,h4,h5⟩:=hr;exact⟨h1,h2,h3,es,c,(hf rfl _ (.inl ⟨h2,rfl⟩)).trans h4,h5⟩
def MemR.step(h:MemR mem ρ B w)(hN:mem.length<=mem'.length)(hL:∀id,id<mem.length->Less ρ ρ' id)(hok:∀b,okB mem ρ w b->okB mem' ρ' w' b∧w'.heap[b]? =w.heap[b]?)
  (hblk:∀(id:Nat)(blk:Blk),mem'[id]? =some (some blk)->(mem[id]? =some (some blk)∧ρ' id=ρ id∧(∀L,ρ id=some L->blk.own=true->∀b,L.foot b->w'.heap[b]? =w.heap[b]?)∧Upb mem ρ w mem' ρ' w' blk)∨∃L,ρ' id=some L∧BlkR mem' ρ' w' B L blk)
  (hdead:∀(id:Nat),(∀(b:Blk),mem'[id]? ≠some (some b))->ρ' id=none)
  (hinj:∀(i j b:Nat),Az mem' ρ' i b->Az mem' ρ' j b->i=j):MemR mem' ρ' B w':=by
 refine⟨fun id blk hid=>?_,hdead,hinj⟩;rcases hblk id blk hid with⟨h1,h2,h3,h4⟩|h1
 ·obtain⟨L,hL',hr⟩:=h.blk id blk h1;exact⟨L,h2.trans hL',BlkR.foot_same hN hL hok (h3 L hL') h4 hr⟩
 ·exact h1
def Df(h:MemR mem ρ B w){id b:Nat}(ho:Az mem ρ id b):b<w.heap.size:=by
 obtain⟨L,blk,h1,h3,h4,h2⟩:=ho;obtain⟨M,hM,hr⟩:=h.blk id blk h3;rw[h1]at hM;cases hM;cases blk with
 |box cells=>
  obtain⟨_,_,_,_,c,T,h5,_,_,h0⟩:=hr;rcases h2 with⟨_,rfl⟩|⟨e,j,h2⟩
  ·exact(A1.1 h5).1
  ·rw[h0]at h2;cases h2
 |row ks own r=>
  rcases h2 with⟨ht,rfl⟩|⟨e,j,h2⟩
  ·obtain⟨_,c,T,h5,_⟩:=(hr.2.2.1 h4).2.2 ht;exact(A1.1 h5).1
  ·rw[hr.2.2.2.2]at h2;cases h2
 |deep ks r hh=>exact(BlkR.deep_lt hr h2).1
 |bor p e j ks r=>cases h4
 |map k I Bo=>
  obtain⟨_,_,h0,es,c,h5,_⟩:=hr;rcases h2 with⟨_,rfl⟩|⟨e,j,h2⟩
  ·exact(A1.1 h5).1
  ·rw[h0]at h2;cases h2
def BN{α:Type}{l:List α}{x y:α}{i:Nat}(h:(l++[x])[i]? =some y):l[i]? =some y∧i<l.length∨i=l.length∧y=x:=by
 rw[List.getElem?_append]at h;split at h
 ·exact .inl ⟨h,by assumption⟩
 ·rename_i hi;have:i-l.length=0:=by
   have:=(A0.1 h).1;simp at this;omega
  rw[this]at h;simp at h;exact .inr ⟨o_,h.symm⟩
def Map.snoc(ρ:Map)(n:Nat)(L:Loc):Map:=fun id=>if id=n then some L else ρ id
def Map.snoc_new{n:Nat}{L:Loc}:Map.snoc ρ n L n=some L:=by simp[Map.snoc]
def Map.snoc_old{n id:Nat}{L:Loc}(h:id<n):Map.snoc ρ n L id=ρ id:=by simp[Map.snoc];omega
def Loc.foot_s0{L:Loc}(h:L.sub=s0){b:Nat}(hb:L.foot b):0<L.tot∧b=L.b:=by
 rcases hb with hb|⟨e,j,hb⟩
 ·exact hb
 ·rw[h]at hb;cases hb
def Loc.fresh{L:Loc}{n:Nat}(h:L.sub=s0)(h2:0<L.tot->n<=L.b):∀b,L.foot b->n<=b:=fun b hb=>by
 obtain⟨h3,rfl⟩:=Loc.foot_s0 h hb;exact h2 h3
def MemR.alloc(h:MemR mem ρ B w)(hb:Below w.heap.size w w'){blk:Blk}{L:Loc}(hfresh:blk.own=true->∀b,L.foot b->w.heap.size<=b)(hr:BlkR (mem++[some blk]) (Map.snoc ρ mem.length L) w' B L blk):
  MemR (mem++[some blk]) (Map.snoc ρ mem.length L) B w':=by
 have old:∀(i b:Nat),Az (mem++[some blk]) (Map.snoc ρ mem.length L) i b->(Az mem ρ i b∧b<w.heap.size)∨(i=mem.length∧w.heap.size<=b):=by
  intro i b ⟨M,blk',g1,g4,g5,g2⟩;rcases BN g4 with⟨g6,g7⟩|⟨g6,g8⟩
  ·rw[Map.snoc_old g7]at g1;have:Az mem ρ i b:=⟨M,blk',g1,g6,g5,g2⟩;exact .inl ⟨this,Df h this⟩
  ·subst g6;cases g8;rw[Map.snoc_new]at g1;cases g1;exact .inr ⟨rfl,hfresh g5 b g2⟩
 have hok:∀b,okB mem ρ w b->okB (mem++[some blk]) (Map.snoc ρ mem.length L) w' b∧w'.heap[b]? =w.heap[b]? :=by
  intro b ⟨h1,h2⟩;refine⟨⟨Nat.lt_of_lt_of_le h1 hb.size,fun id ho=>?_⟩,hb.block b h1⟩;rcases old id b ho with⟨g1,_⟩|⟨_,g2⟩
  ·exact h2 id g1
  ·omega
 refine h.step y_ (fun id hid=>.inl (Map.snoc_old hid)) hok (fun id b hid=>?_) (fun id hid=>?_) (fun i j b hi hj=>?_)
 ·rcases BN hid with⟨g6,g7⟩|⟨g6,g7⟩
  ·refine .inl ⟨g6,Map.snoc_old g7,fun M hM ho c hc=>hb.block _ (Df h ⟨M,b,hM,g6,ho,hc⟩),fun p e j ks r _ kps rp hh Lp q1 q2=>?_⟩;have hp:p<mem.length:=(A0.1 q1).1;exact⟨by rw[AQ hp];exact q1,(Map.snoc_old hp).trans q2,fun ht=>hb.block _ (Df h ⟨Lp,_,q2,q1,rfl,.inl ⟨ht,rfl⟩⟩)⟩
  ·cases g7;subst g6;exact .inr ⟨L,Map.snoc_new,hr⟩
 ·have hne:id≠mem.length:=by
   rintro rfl;exact hid blk y_
  have:Map.snoc ρ mem.length L id=ρ id:=by simp[Map.snoc,hne]
  rw[this];refine h.dead id fun b hb'=>hid b ?_;have:=(A0.1 hb').1;rw[AQ this];exact hb'
 ·rcases old i b hi with⟨p1,p2⟩|⟨p1,p2⟩<;>rcases old j b hj with⟨q1,q2⟩|⟨q1,q2⟩
  ·exact h.inj i j b p1 q1
  ·omega
  ·omega
  ·omega
def Ea{α:Type}{l:List α}{x y:α}{n i:Nat}(h:(l.set n x)[i]? =some y):(i≠n∧l[i]? =some y)∨(i=n∧y=x∧n<l.length):=by
 rw[List.getElem?_set]at h;by_cases hni:n=i
 ·simp only[hni,if_true]at h;split at h
  ·simp at h;exact .inr ⟨hni.symm,h.symm,o_⟩
  ·cases h
 ·simp only[hni,if_false]at h;exact .inl ⟨fun e=>hni e.symm,h⟩
def MemR.freeze(h:MemR mem ρ B w){id:Nat}{ks:List CK}{own:Bool}{r:Row}(hid:mem[id]? =some (some (.row ks own r))):∃ρ',(∀i,Less ρ ρ' i)∧(∀i,i≠id->ρ' i=ρ i)∧MemR (mem.set id (some (.row ks false r))) ρ' B w∧
  (∀b,okB mem ρ w b->okB (mem.set id (some (.row ks false r))) ρ' w b)∧(∀L,ρ id=some L->0<L.n->okB (mem.set id (some (.row ks false r))) ρ' w L.b):=by
 obtain⟨L,hL,hr⟩:=h.blk id _ hid;have hless:∀i,Less ρ (fun i=>if i=id then some {L with own:=false}else ρ i) i:=by
  intro i;by_cases hi:i=id
  ·subst hi;exact .inr (.inr ⟨L,false,L.sub,hL,y_,fun hf=>by cases hf⟩)
  ·exact .inl (by simp[hi])
 refine⟨fun i=>if i=id then some {L with own:=false}else ρ i,hless,fun i hi=>by simp[hi],?_⟩;have hlt:id<mem.length:=(A0.1 hid).1;have hown:∀(i b:Nat),Az (mem.set id (some (.row ks false r))) (fun i=>if i=id then some {L with own:=false}else ρ i) i b->i≠id∧Az mem ρ i b:=by
  intro i b ⟨M,blk,g1,g4,g5,g2⟩;rcases Ea g4 with⟨g6,g7⟩|⟨g6,g7,_⟩
  ·simp only[g6,if_false]at g1;exact⟨g6,M,blk,g1,g7,g5,g2⟩
  ·cases g7;cases g5
 have hok:∀b,okB mem ρ w b->okB (mem.set id (some (.row ks false r))) (fun i=>if i=id then some {L with own:=false}else ρ i) w b:=
  fun b ⟨h1,h2⟩=>⟨h1,fun i ho=>h2 i (hown i b ho).2⟩
 have hL0:0<L.n->okB (mem.set id (some (.row ks false r))) (fun i=>if i=id then some {L with own:=false}else ρ i) w L.b:=by
  intro hn;have hn':0<r.n:=by have:=hr.1;omega
  cases own with
  |false=>exact hok _ ((hr.2.2.2.1 hn').1 rfl)
  |true=>
   have ht:0<L.tot:=by have:=(hr.2.2.1 rfl).2.1;omega
   have ho:Az mem ρ id L.b:=⟨L,_,hL,hid,rfl,.inl ⟨ht,rfl⟩⟩;refine⟨Df h ho,fun i hM=>?_⟩;obtain⟨q1,q2⟩:=hown i L.b hM;exact q1 (h.inj i id L.b q2 ho)
 refine⟨?_,hok,fun M hM hn=>?_⟩
 ·refine h.step y_ (fun i _=>hless i) (fun b hb=>⟨hok b hb,rfl⟩) (fun i b hi=>?_) (fun i hi=>?_) (fun i j b hi hj=>?_)
  ·rcases Ea hi with⟨g6,g7⟩|⟨g6,g7,_⟩
   ·refine .inl ⟨g7,by simp[g6],fun _ _ _ _ _=>rfl,fun p e j ks' r' _ kps rp hh Lp q1 q2=>?_⟩;have hne:p≠id:=by rintro rfl;rw[hid]at q1;cases q1
    exact⟨by rw[List.getElem?_set_ne (fun e=>hne e.symm)];exact q1,by simp[hne,q2],fun _=>rfl⟩
   ·cases g7;refine .inr ⟨{L with own:=false},by simp[g6],hr.1,hr.2.1,(fun hf=>by cases hf),fun hn=>⟨fun _=>hL0 (by have:=hr.1;omega),?_⟩,hr.2.2.2.2⟩;exact(hr.2.2.2.1 hn).2.mono (fun b hb=>⟨hok b hb,rfl⟩) rfl
  ·have hne:i≠id:=by
    rintro rfl;exact hi (.row ks false r) (by simp[hlt])
   simp only[hne,if_false];refine h.dead i fun b hb=>hi b ?_;rw[List.getElem?_set_ne (fun e=>hne e.symm)];exact hb
  ·exact h.inj i j b (hown i b hi).2 (hown j b hj).2
 ·rw[hL]at hM;cases hM;exact hL0 hn
end
section
variable{P:Program}{mem mem':M_}{ρ ρ':Map}{B:Nat}{w w':World}
def CQ{b:Nat}{T:TypeId}:∀(vs:List Value)(o:Nat)(w:World)(c:Array Value),w.heap[b]? =some (.cells c T (0,0))->o+vs.length<=c.size->
  ∃c',(w.setCells b o vs).heap[b]? =some (.cells c' T (0,0))∧c'.size=c.size∧(∀i,c'[i]? =if o<=i∧i<o+vs.length then vs[i-o]? else c[i]?)∧(∀k,k≠b->(w.setCells b o vs).heap[k]? =w.heap[k]?)∧(w.setCells b o vs).heap.size=w.heap.size
 |[],o,w,c,hg,_=>⟨c,hg,rfl,fun i=>by rw[AL y_],fun _ _=>rfl,rfl⟩
 |v::vs,o,w,c,hg,hl=>by
  have hg1:(w.setCell ⟨b,o,none⟩ v).heap[b]? =some (.cells (c.setIfInBounds o v) T (0,0)):=by
   simp[World.setCell,Array.getElem?_modify,hg]
  obtain⟨c',h1,h2,h3,h4,h5⟩:=CQ vs (o+1) (w.setCell ⟨b,o,none⟩ v) (c.setIfInBounds o v) hg1 (by simp at hl⊢;omega);refine⟨c',h1,by simpa using h2,fun i=>?_,fun k hk=>(h4 k hk).trans (Below.heap_setCell _ _ _ _ hk),by rw[World.setCells,h5];simp⟩;rw[h3 i];by_cases hi:i=o
  ·subst hi;have:i<c.size:=by simp at hl;omega
   rw[AL o_,AM y_];simp[this]
  ·by_cases h6:o+1<=i∧i<o+1+vs.length
   ·rw[AM h6,AM z_];rw[show i-o=(i-(o+1))+1 by omega];simp
   ·rw[AL h6,AL z_];rw[Array.getElem?_setIfInBounds,AL o_]
def below_setCells{b o:Nat}{vs:List Value}{w0:World}(h:Below B w0 w)(hb:B<=b):Below B w0 (w.setCells b o vs):=by
 have:∀(vs:List Value)(o:Nat)(w:World),Below B w0 w->Below B w0 (w.setCells b o vs):=by
  intro vs
  induction vs with
  |nil=>intro o w h;exact h
  |cons v vs ih=>intro o w h;exact ih _ _ (h.setCell (p:=⟨b,o,none⟩) hb v)
 exact this vs o w h
def MemR.write(h:MemR mem ρ B w){id:Nat}{blk blk':Blk}{L:Loc}(hid:mem[id]? =some (some blk))(hnd:∀ks r h,blk≠.deep ks r h)(ho:blk.own=true)(hL:ρ id=some L)(hs:L.sub=s0)(ht:0<L.tot)
  (hother:∀k,k≠L.b->w'.heap[k]? =w.heap[k]?) (hsize:w'.heap.size=w.heap.size) (hr:BlkR (mem.set id (some blk')) ρ w' B L blk'):MemR (mem.set id (some blk')) ρ B w':=by
 have hfoot:∀b,L.foot b->b=L.b:=by
  intro b hb;rcases hb with⟨_,hb⟩|⟨e,j,hb⟩
  ·exact hb
  ·rw[hs]at hb;cases hb
 have hO:Az mem ρ id L.b:=⟨L,blk,hL,hid,ho,.inl ⟨ht,rfl⟩⟩;have hown:∀(i b:Nat),Az (mem.set id (some blk')) ρ i b->Az mem ρ i b:=by
  intro i b ⟨M,c,g1,g4,g5,g2⟩;rcases Ea g4 with⟨g6,g7⟩|⟨g6,g7,_⟩
  ·exact⟨M,c,g1,g7,g5,g2⟩
  ·subst g6;exact⟨M,blk,g1,hid,ho,g2⟩
 refine h.step y_ (fun _ _=>.inl rfl) (fun b hb=>⟨⟨by rw[hsize];exact hb.1,fun i hM=>hb.2 i (hown i b hM)⟩,hother b fun e=>hb.2 id (e▸hO)⟩) (fun i b hi=>?_) (fun i hi=>?_) (fun i j b hi hj=>h.inj i j b (hown i b hi) (hown j b hj))
 ·rcases Ea hi with⟨g6,g7⟩|⟨g6,g7,_⟩
  ·refine .inl ⟨g7,rfl,fun M hM hob c hc=>hother _ fun e=>g6 (h.inj i id c ⟨M,b,hM,g7,hob,hc⟩ (e▸hO)),fun p e j ks r _ kps rp hh Lp q1 q2=>?_⟩;have hne:p≠id:=by
    rintro rfl;rw[hid]at q1;cases q1;exact hnd _ _ _ rfl
   exact⟨by rw[List.getElem?_set_ne (fun e=>hne e.symm)];exact q1,q2,fun ht=>hother _ fun e=>hne (h.inj p id Lp.b ⟨Lp,_,q2,q1,rfl,.inl ⟨ht,rfl⟩⟩ (e▸hO))⟩
  ·cases g7;subst g6;exact .inr ⟨L,hL,hr⟩
 ·have hlt:id<mem.length:=(A0.1 hid).1;have hne:i≠id:=by
   rintro rfl;exact hi blk' (by simp[hlt])
  refine h.dead i fun b hb=>hi b ?_;rw[List.getElem?_set_ne (fun e=>hne e.symm)];exact hb
def CellR.one{ok:Nat->Prop}{k:CK}{r:Row}{e j:Nat}{v:Value}(h:CellR ok w k r e j v):v.oneCell'=true:=by
 cases h<;>rfl
def CellR.win{ok:Nat->Prop}{k:CK}{r:Row}{e0 n e j:Nat}{v:Value}(h:CellR ok w k r (e0+e) j v):CellR ok w k (r.win e0 n) e j v:=by
 cases h with
 |int=>exact .int
 |bool=>exact .bool
 |str=>exact .str
 |slice0 h1=>exact .slice0 h1
 |slice h1 h2 h3 h4=>exact .slice h1 h2 h3 h4
def CellR.winOf{ok:Nat->Prop}{k:CK}{r:Row}{e0 n e j:Nat}{v:Value}(h:CellR ok w k r (e0+e) j v):CellR ok w k (w_ r e0 n) e j v:=by
 cases e0 with
 |zero=>
  rw[AE]at h;cases h with
  |int=>exact .int
  |bool=>exact .bool
  |str=>exact .str
  |slice0 h1=>exact .slice0 h1
  |slice h1 h2 h3 h4=>exact .slice h1 h2 h3 h4
 |succ e0=>exact h.win
def wn_{r:Row}{e n:Nat}:(w_ r e n).n=n:=by cases e<;>rfl
def Rds.winOf{ok:Nat->Prop}{ks:List CK}{r:Row}{b off e0 n:Nat}(h:Rds ok w ks r b off)(hn:e0+n<=r.n):Rds ok w ks (w_ r e0 n) b (off+e0*ks.length):=by
 cases h with
 |mk v h1 h2=>
  refine .mk (fun e j=>v (e0+e) j) (fun e j k he hk=>?_) (fun e j k he hk=>?_)
  ·rw[wn_]at he;have:=h1 (e0+e) j k o_ hk;rw[show off+e0*ks.length+e*ks.length+j=off+(e0+e)*ks.length+j by rw[Nat.add_mul];omega];exact this
  ·rw[wn_]at he;exact(h2 (e0+e) j k o_ hk).winOf
def CellR.app_l{ok:Nat->Prop}{k:CK}{r s:Row}{e j:Nat}{v:Value}(he:e<r.n)(h:CellR ok w k r e j v):CellR ok w k (r.app s) e j v:=by
 have hb:Nat.blt e r.n=true:=by simp[Nat.blt_eq,he]
 have e1:(r.app s).I e j=r.I e j:=by simp[Row.app,Row.I,hb]
 have e2:(r.app s).B e j=r.B e j:=by simp[Row.app,Row.B,hb]
 have e3:(r.app s).S e j=r.S e j:=by simp[Row.app,Row.S,hb]
 have e4:(r.app s).R e j=r.R e j:=by simp[Row.app,Row.R,hb]
 cases h with
 |int=>rw[<-e1];exact .int
 |bool=>rw[<-e2];exact .bool
 |str=>rw[<-e3];exact .str
 |slice0 h1=>exact .slice0 (by rw[e4];exact h1)
 |slice h1 h2 h3 h4=>exact .slice (by rw[e4];exact h1) h2 h3 (by rw[e4];exact h4)
def CellR.app_r{ok:Nat->Prop}{k:CK}{r s:Row}{e j:Nat}{v:Value}(he:r.n<=e)(h:CellR ok w k s (e-r.n) j v):CellR ok w k (r.app s) e j v:=by
 have hb:Nat.blt e r.n=false:=by
  cases hh:Nat.blt e r.n with
  |false=>rfl
  |true=>rw[Nat.blt_eq]at hh;omega
 have e1:(r.app s).I e j=s.I (e-r.n) j:=by simp[Row.app,Row.I,hb]
 have e2:(r.app s).B e j=s.B (e-r.n) j:=by simp[Row.app,Row.B,hb]
 have e3:(r.app s).S e j=s.S (e-r.n) j:=by simp[Row.app,Row.S,hb]
 have e4:(r.app s).R e j=s.R (e-r.n) j:=by simp[Row.app,Row.R,hb]
 cases h with
 |int=>rw[<-e1];exact .int
 |bool=>rw[<-e2];exact .bool
 |str=>rw[<-e3];exact .str
 |slice0 h1=>exact .slice0 (by rw[e4];exact h1)
 |slice h1 h2 h3 h4=>exact .slice (by rw[e4];exact h1) h2 h3 (by rw[e4];exact h4)
def Ai(sz n:Nat)(v:Nat->Nat->Value):List Value:=(List.range (n*sz)).map fun i=>v (i/sz) (i%sz)
def Am{sz n:Nat}{v:Nat->Nat->Value}:(Ai sz n v).length=n*sz:=by simp[Ai]
def CV{sz n:Nat}{v:Nat->Nat->Value}{e j:Nat}(he:e<n)(hj:j<sz):(Ai sz n v)[e*sz+j]? =some (v e j):=by
 have h1:e*sz+j<n*sz:=by
  have:(e+1)*sz<=n*sz:=AH _ o_;rw[Nat.add_mul]at this;omega
 have h2:(e*sz+j)/sz=e:=by
  rw[Nat.add_comm,Nat.add_mul_div_right _ _ o_,Nat.div_eq_of_lt hj];omega
 have h3:(e*sz+j)%sz=j:=by
  rw[Nat.add_comm,Nat.add_mul_mod_self_right,Nat.mod_eq_of_lt hj]
 simp[Ai,h1,h2,h3]
def RG{sz n:Nat}{v:Nat->Nat->Value}{i:Nat}{u:Value}(h:(Ai sz n v)[i]? =some u):0<sz∧i/sz<n∧i%sz<sz∧u=v (i/sz) (i%sz)∧i/sz*sz+i%sz=i:=by
 have hi:i<n*sz:=by
  have:=(A0.1 h).1
  rwa [Am]at this
 have hsz:0<sz:=by
  rcases Nat.eq_zero_or_pos sz with h0|h0
  ·subst h0;omega
  ·exact h0
 refine⟨hsz,?_,Nat.mod_lt _ hsz,?_,?_⟩
 ·rw[Nat.div_lt_iff_lt_mul hsz];exact hi
 ·simp[Ai,hi]at h;exact h.symm
 ·rw[Nat.mul_comm];exact Nat.div_add_mod i sz
def Rds.src{ok:Nat->Prop}{ks:List CK}{r:Row}{b off:Nat}(h:Rds ok w ks r b off):∃v:Nat->Nat->Value,(∀e j k,e<r.n->ks[j]? =some k->CellR ok w k r e j (v e j))∧
  (∀i u,(Ai ks.length r.n v)[i]? =some u->w.cell? ⟨b,off+i,none⟩=some u)∧∀u∈Ai ks.length r.n v,u.oneCell'=true:=by
 cases h with
 |mk v h1 h2=>
  have hk:∀i u,(Ai ks.length r.n v)[i]? =some u->i/ks.length<r.n∧u=v (i/ks.length) (i%ks.length)∧(∃k,ks[i%ks.length]? =some k)∧i/ks.length*ks.length+i%ks.length=i:=by
   intro i u hu;obtain⟨g1,g2,g3,g4,g5⟩:=RG hu;exact⟨g2,g4,⟨_,AK g3⟩,g5⟩
  refine⟨v,h2,fun i u hu=>?_,fun u hu=>?_⟩
  ·obtain⟨g1,g2,⟨k,g3⟩,g4⟩:=hk i u hu;have:=h1 _ _ _ g1 g3;rw[<-g2]at this;rw[<-this]
   congr 2
   omega
  ·obtain⟨i,hi⟩:=List.getElem?_of_mem hu;obtain⟨g1,g2,⟨k,g3⟩,g4⟩:=hk i u hi;rw[g2];exact(h2 _ _ _ g1 g3).one
def CellR.plain{ok ok':Nat->Prop}{k:CK}{r:Row}{e j:Nat}{v:Value}(hk:ck1 k=true)(h:CellR ok w k r e j v):CellR ok' w k r e j v:=by
 cases h with
 |int=>exact .int
 |bool=>exact .bool
 |str=>exact .str
 |slice0=>cases hk
 |slice=>cases hk
def EY:∀{ks:List CK},flat ks=true->∀(j:Nat)(k:CK),ks[j]? =some k->ck1 k=true
 |[],_,j,k,h=>by simp at h
 |.int _::ks,hf,j,k,h=>by
  cases j with
  |zero=>simp at h;subst h;rfl
  |succ j=>exact EY (ks:=ks) hf j k (by simpa using h)
 |.bool::ks,hf,j,k,h=>by
  cases j with
  |zero=>simp at h;subst h;rfl
  |succ j=>exact EY (ks:=ks) hf j k (by simpa using h)
 |.str::ks,hf,j,k,h=>by
  cases j with
  |zero=>simp at h;subst h;rfl
  |succ j=>exact EY (ks:=ks) hf j k (by simpa using h)
 |.slice _::ks,hf,_,_,_=>by cases hf
 |.other::ks,hf,_,_,_=>by cases hf
def Rds.plain{ok ok':Nat->Prop}{ks:List CK}{r:Row}{b off:Nat}(hk:flat ks=true)(h:Rds ok w ks r b off):Rds ok' w ks r b off:=by
 cases h with
 |mk v h1 h2=>exact .mk v h1 fun e j k he hj=>(h2 e j k he hj).plain (EY hk j k hj)
def BlkR.dat{mem:M_}(hm:MemR mem ρ B w){id:Nat}{b:Blk}{L:Loc}(hb:mem[id]? =some (some b))(hL:ρ id=some L){ks:List CK}{r:Row}(hd:Yk b=some (ks,r)):
  L.n=r.n∧L.sz=ks.length∧(0<r.n->L.b<w.heap.size∧Rds (fun b=>b<w.heap.size) w ks r L.b L.off):=by
 obtain⟨M,hM,hr⟩:=hm.blk id b hb;rw[hL]at hM;cases hM;cases b with
 |box cells=>cases hd
 |map _ _ _=>cases hd
 |row ks' o r'=>
  cases hd;refine⟨hr.1,hr.2.1,fun hn=>⟨?_,(hr.2.2.2.1 hn).2.mono (fun b hb=>⟨hb.1,rfl⟩) rfl⟩⟩;cases o with
  |false=>exact((hr.2.2.2.1 hn).1 rfl).1
  |true=>exact Df hm ⟨L,_,hL,hb,rfl,.inl ⟨by have:=(hr.2.2.1 rfl).2.1;omega,rfl⟩⟩
 |deep ks' r' h=>
  cases h with
  |some h=>cases hd
  |none=>
   cases hd;refine⟨hr.1,hr.2.1,fun hn=>⟨(BlkR.deep_lt hr (.inl ⟨by have:=hr.2.2.2.1;omega,rfl⟩)).1,?_⟩⟩;have hfl:∀b,L.foot b->b<w.heap.size:=fun b hb=>(BlkR.deep_lt hr hb).1;obtain⟨h1,h2,h3,h4,h5,h6,h7,h8⟩:=hr;have key:∀e j,∃v,∀k,e<r.n->ks[j]? =some k->w.cell? ⟨L.b,L.off+e*ks.length+j,none⟩=some v∧DCell B w k r e j (Ej none e j) (L.sub e j) v:=by
    intro e j;by_cases he:e<r.n
    ·cases hk:ks[j]? with
     |none=>exact⟨undef,fun k _ h=>by cases h⟩
     |some k=>
      obtain⟨v,g1,g2⟩:=h6 e j k he hk;exact⟨v,fun k' _ h=>by cases h;exact⟨g1,g2⟩⟩
    ·exact⟨undef,fun k h _=>absurd h he⟩
   refine .mk (fun e j=>Classical.choose (key e j)) (fun e j k he hk=>(Classical.choose_spec (key e j) k he hk).1) (fun e j k he hk=>?_);obtain⟨_,g2⟩:=Classical.choose_spec (key e j) k he hk;generalize Classical.choose (key e j)=v at g2;cases k with
   |slice sub=>
    obtain⟨g3,g4,g5⟩:=g2;obtain⟨a,cap,rfl,g6,g7⟩:=g5 rfl;rcases Nat.eq_zero_or_pos (r.R e j).n with h0|h0
    ·rw[h0];exact .slice0 h0
    ·rcases g7 with⟨g7,_⟩|⟨b',off,c,T,q1,q2,q3,q4,q5,q6⟩
     ·omega
     ·rw[q2];exact .slice rfl g6 (A1.1 q4).1 (q6.plain g3)
   |int k=>exact CellR.plain (ok:=fun _=>False) rfl g2
   |bool=>exact CellR.plain (ok:=fun _=>False) rfl g2
   |str=>exact CellR.plain (ok:=fun _=>False) rfl g2
   |other=>exact CellR.plain (ok:=fun _=>False) rfl g2
 |bor p e0 j0 ks' r'=>
  cases hd;obtain⟨h1,h2,h3,h4,h5,Lp,kps,rp,h,a,g1,g2,g3,g4,g5,g6,g0,g7,g8⟩:=hr;refine⟨h2,h3,fun hn=>?_⟩;obtain⟨Mp,hMp,q1,q2,q3,q4,q5,q6,q7,q8⟩:=hm.blk p _ g1;rw[g2]at hMp;cases hMp;obtain⟨v,v1,v2⟩:=q6 e0 j0 _ g3 g4;rw[g7]at v1;cases v1;obtain⟨a',cap,v3,v4,v5⟩:=v2.2.2 g5;obtain⟨w1,_,w3⟩:=Value.slice.inj v3;subst w1;subst w3;rw[g6]at v4 v5;rcases v5 with⟨v5,_⟩|⟨b,off,c,T,u1,u2,u3,u4,u5,u6⟩
  ·omega
  ·have ha:L.b=b∧L.off=off:=by
    rcases g8 with g8|g8
    ·omega
    ·rw[u2]at g8;cases g8;exact⟨rfl,rfl⟩
   obtain⟨rfl,rfl⟩:=ha;exact⟨(A1.1 u4).1,u6.plain h1⟩
end
def same_eq{a b:IntKind}(h:IntKind.same a b=true):a=b:=by cases a<;>cases b<;>first|rfl|simp[IntKind.same]at h
mutual
def Yq:∀{a b:CK},Gf a b=true->a=b
 |.int k,.int k',h=>congrArg CK.int (same_eq (by simpa [Gf]using h))
 |.bool,.bool,_=>rfl
 |.str,.str,_=>rfl
 |.slice a,.slice b,h=>congrArg CK.slice (CS (by simpa [Gf]using h))
 |.int _,.bool,h=>by simp[Gf]at h
 |.int _,.str,h=>by simp[Gf]at h
 |.int _,.slice _,h=>by simp[Gf]at h
 |.int _,.other,h=>by simp[Gf]at h
 |.bool,.int _,h=>by simp[Gf]at h
 |.bool,.str,h=>by simp[Gf]at h
 |.bool,.slice _,h=>by simp[Gf]at h
 |.bool,.other,h=>by simp[Gf]at h
 |.str,.int _,h=>by simp[Gf]at h
 |.str,.bool,h=>by simp[Gf]at h
 |.str,.slice _,h=>by simp[Gf]at h
 |.str,.other,h=>by simp[Gf]at h
 |.slice _,.int _,h=>by simp[Gf]at h
 |.slice _,.bool,h=>by simp[Gf]at h
 |.slice _,.str,h=>by simp[Gf]at h
 |.slice _,.other,h=>by simp[Gf]at h
 |.other,_,h=>by simp[Gf]at h
def CS:∀{a b:List CK},Fa a b=true->a=b
 |[],[],_=>rfl
 |a::as,b::bs,h=>by
  simp only[Fa,A2]at h;rw[Yq h.1,CS h.2]
 |[],_::_,h=>by simp[Fa]at h
 |_::_,[],h=>by simp[Fa]at h
end
section
variable{P:Program}{mem mem':M_}{ρ ρ':Map}{B:Nat}{w w':World}
def hit(e j:Nat):(Nat.beq e e&&Nat.beq j j)=true:=y_
def miss{e j e' j':Nat}(h:e'≠e∨j'≠j):(Nat.beq e' e&&Nat.beq j' j)=false:=by
 rcases h with h|h
 ·have:Nat.beq e' e=false:=by
   cases hb:Nat.beq e' e with
   |false=>rfl
   |true=>exact absurd (AF hb) h
  simp[this]
 ·have:Nat.beq j' j=false:=by
   cases hb:Nat.beq j' j with
   |false=>rfl
   |true=>exact absurd (AF hb) h
  simp[this]
def CellR.congr{ok:Nat->Prop}{k:CK}{r r':Row}{e j:Nat}{v:Value}(hI:r'.I e j=r.I e j)(hB:r'.B e j=r.B e j)(hS:r'.S e j=r.S e j)(hR:r'.R e j=r.R e j)(h:CellR ok w k r e j v):CellR ok w k r' e j v:=by
 cases h with
 |int=>rw[<-hI];exact .int
 |bool=>rw[<-hB];exact .bool
 |str=>rw[<-hS];exact .str
 |slice0 h1=>exact .slice0 (by rw[hR];exact h1)
 |slice h1 h2 h3 h4=>exact .slice (by rw[hR];exact h1) h2 h3 (by rw[hR];exact h4)
def CellR.setI{ok:Nat->Prop}{k:CK}{r:Row}{e j e' j':Nat}{x:Int}{v:Value}(hne:e'≠e∨j'≠j)(h:CellR ok w k r e' j' v):CellR ok w k (r.setI e j x) e' j' v:=
 CellR.congr (r:=r) (r':=r.setI e j x) (by simp only[Row.setI,Row.I,miss hne,cond_false]) rfl rfl rfl h
def CellR.setB{ok:Nat->Prop}{k:CK}{r:Row}{e j e' j':Nat}{x:Bool}{v:Value}(hne:e'≠e∨j'≠j)(h:CellR ok w k r e' j' v):CellR ok w k (r.setB e j x) e' j' v:=
 CellR.congr (r:=r) (r':=r.setB e j x) rfl (by simp only[Row.setB,Row.B,miss hne,cond_false]) rfl rfl h
def CellR.setS{ok:Nat->Prop}{k:CK}{r:Row}{e j e' j':Nat}{x:Y_}{v:Value}(hne:e'≠e∨j'≠j)(h:CellR ok w k r e' j' v):CellR ok w k (r.setS e j x) e' j' v:=
 CellR.congr (r:=r) (r':=r.setS e j x) rfl rfl (by simp only[Row.setS,Row.S,miss hne,cond_false]) rfl h
def CellR.setR{ok:Nat->Prop}{k:CK}{r:Row}{e j e' j':Nat}{x:Row}{v:Value}(hne:e'≠e∨j'≠j)(h:CellR ok w k r e' j' v):CellR ok w k (r.setR e j x) e' j' v:=
 CellR.congr (r:=r) (r':=r.setR e j x) rfl rfl rfl (by simp only[Row.setR,Row.R,miss hne,cond_false]) h
structure Kept(mem:M_)(ρ:Map)(w:World)(mem1:M_)(ρ1:Map):Prop where
 less:∀i,Less ρ ρ1 i
 len:mem1.length=mem.length
 ok:∀b,okB mem ρ w b->okB mem1 ρ1 w b
 blk:∀id:Nat,(mem1[id]? =mem[id]? ∧ρ1 id=ρ id)∨∃ks r,mem1[id]? =some (some (.row ks false r))
def Less.refl(ρ:Map)(i:Nat):Less ρ ρ i:=.inl rfl
def Less.trans{a b c:Map}{i:Nat}(h:Less a b i)(k:Less b c i):Less a c i:=by
 rcases k with k|k|⟨L,o,sb,k1,k2,k3⟩
 ·rcases h with h|h|⟨M,o,sb,h1,h2,h3⟩
  ·exact .inl (k.trans h)
  ·exact .inr (.inl (k.trans h))
  ·exact .inr (.inr ⟨M,o,sb,h1,k.trans h2,h3⟩)
 ·exact .inr (.inl k)
 ·rcases h with h|h|⟨M,o',sb',h1,h2,h3⟩
  ·exact .inr (.inr ⟨L,o,sb,h▸k1,k2,k3⟩)
  ·rw[h]at k1;cases k1
  ·rw[h2]at k1;cases k1;exact .inr (.inr ⟨M,o,sb,h1,k2,fun hf=>h3 (k3 hf)⟩)
def Kept.refl(mem:M_)(ρ:Map)(w:World):Kept mem ρ w mem ρ:=⟨Less.refl ρ,rfl,fun _ h=>h,fun _=>.inl ⟨rfl,rfl⟩⟩
def Kept.trans{m1 m2:M_}{ρ1 ρ2:Map}(h:Kept mem ρ w m1 ρ1)(k:Kept m1 ρ1 w m2 ρ2):Kept mem ρ w m2 ρ2:=
 ⟨fun i=>(h.less i).trans (k.less i),k.len.trans h.len,fun b hb=>k.ok b (h.ok b hb),fun id=>by
  rcases k.blk id with⟨k1,k2⟩|k1
  ·rcases h.blk id with⟨h1,h2⟩|⟨ks,r,h1⟩
   ·exact .inl ⟨k1.trans h1,k2.trans h2⟩
   ·exact .inr ⟨ks,r,k1.trans h1⟩
  ·exact .inr k1⟩
def O1{mem1:M_}{r r1:Row}{e j:Nat}{ck:CK}{x c:Value}(h:O0 mem r e j ck x=some (r1,mem1))(hm:MemR mem ρ B w)(hv:V ρ mem.length x c):
  ∃ρ1,Kept mem ρ w mem1 ρ1∧MemR mem1 ρ1 B w∧r1.n=r.n∧(∀(ok:Nat->Prop)(w':World)(k:CK)(e' j':Nat)(v:Value),(e'≠e∨j'≠j)->CellR ok w' k r e' j' v->CellR ok w' k r1 e' j' v)∧CellR (okB mem1 ρ1 w) w ck r1 e j c:=by
 unfold O0 at h;split at h
 ·rename_i k k' n;split at h
  ·rename_i hs;cases h;cases same_eq hs;cases hv;refine⟨ρ,.refl ..,hm,rfl,fun _ _ _ _ _ _ hne hc=>hc.setI hne,?_⟩;have:(r.setI e j n).I e j=n:=by simp only[Row.setI,Row.I,hit,cond_true]
   rw[<-this];have h2:=@CellR.int (okB mem ρ w) w k (r.setI e j n) e j;rw[this]at h2⊢;exact h2
  ·cases h
 ·rename_i b;cases h;cases hv;refine⟨ρ,.refl ..,hm,rfl,fun _ _ _ _ _ _ hne hc=>hc.setB hne,?_⟩;have:(r.setB e j b).B e j=b:=by simp only[Row.setB,Row.B,hit,cond_true]
  have h2:=@CellR.bool (okB mem ρ w) w (r.setB e j b) e j;rw[this]at h2;exact h2
 ·rename_i s;cases h;cases hv;refine⟨ρ,.refl ..,hm,rfl,fun _ _ _ _ _ _ hne hc=>hc.setS hne,?_⟩;have:(r.setS e j s).S e j=s:=by simp only[Row.setS,Row.S,hit,cond_true]
  have h2:=@CellR.str (okB mem ρ w) w (r.setS e j s) e j;rw[this]at h2;exact h2
 ·cases h;cases hv;refine⟨ρ,.refl ..,hm,rfl,fun _ _ _ _ _ _ hne hc=>hc.setR hne,.slice0 ?_⟩;simp only[Row.setR,Row.R,hit,cond_true,Row.n]
 ·rename_i sub id e' len;split at h
  ·rename_i ks own s hb;split at h
   ·rename_i hks;cases CS hks;cases h;obtain⟨ρ1,f1,f2,f3,f4,f5⟩:=hm.freeze hb;obtain⟨L,hL,hbr⟩:=hm.blk _ _ hb;refine⟨ρ1,⟨f1,y_,f4,fun i=>?_⟩,f3,rfl,fun _ _ _ _ _ _ hne hc=>hc.setR hne,?_⟩
    ·by_cases hi:i=id
     ·subst hi;have hlt:i<mem.length:=(A0.1 hb).1;exact .inr ⟨sub,s,by simp[hlt]⟩
     ·exact .inl ⟨by rw[List.getElem?_set_ne (fun e=>hi e.symm)],f2 i hi⟩
    ·have hR:(r.setR e j (w_ s e' len)).R e j=w_ s e' len:=by simp only[Row.setR,Row.R,hit,cond_true]
     cases hv with
     |sliceDead h1 h2=>exact absurd h2 (BX hm hb)
     |@slice _ _ _ M a cap h1 h2 h3 h4 h5 h6=>
      rw[hL]at h2;cases h2;rcases Nat.eq_zero_or_pos len with h0|h0
      ·subst h0;exact .slice0 (by rw[hR,wn_])
      ·rw[h5 h0];have hn:0<s.n:=by have:=hbr.1;omega
       refine .slice (by rw[hR,wn_]) h4 (f5 L hL o_) ?_;rw[hR];have h7:=((hbr.2.2.2.1 hn).2.mono (fun b hb=>⟨f4 b hb,rfl⟩) rfl:Rds _ w _ s L.b L.off).winOf (e0:=e') (n:=len) (by have:=hbr.1;omega);rw[<-hbr.2.1]at h7;exact h7
   ·cases h
  ·cases h
 ·cases h
def Ew{e:Nat}:∀(xs:List Value)(mem mem1:M_)(ρ:Map)(r r1:Row)(j:Nat)(ks:List CK)(cs:List Value),setCells mem r e j ks xs=some (r1,mem1)->MemR mem ρ B w->cs.length=xs.length->
  (∀(i:Nat)(x c:Value),xs[i]? =some x->cs[i]? =some c->V ρ mem.length x c)->
  ∃ρ1,Kept mem ρ w mem1 ρ1∧MemR mem1 ρ1 B w∧r1.n=r.n∧xs.length<=ks.length∧
   (∀(ok:Nat->Prop)(w':World)(k:CK)(e' j':Nat)(v:Value),(e'≠e∨j'<j∨j+xs.length<=j')->CellR ok w' k r e' j' v->CellR ok w' k r1 e' j' v)∧
   ∀(i:Nat)(k:CK)(c:Value),ks[i]? =some k->cs[i]? =some c->CellR (okB mem1 ρ1 w) w k r1 e (j+i) c
 |[],mem,mem1,ρ,r,r1,j,ks,cs,h,hm,hl,hv=>by
  have:r=r1∧mem=mem1:=by
   cases ks<;>simp[setCells]at h<;>exact h
  obtain⟨rfl,rfl⟩:=this;have hcs:cs=[]:=by simpa using hl
  subst hcs;exact⟨ρ,.refl ..,hm,rfl,y_,fun _ _ _ _ _ _ _ hc=>hc,fun i k c _ hc=>by simp at hc⟩
 |x::xs,mem,mem1,ρ,r,r1,j,[],cs,h,hm,hl,hv=>by simp[setCells]at h
 |x::xs,mem,mem1,ρ,r,r1,j,ck::ks,[],h,hm,hl,hv=>by simp at hl
 |x::xs,mem,mem1,ρ,r,r1,j,ck::ks,c::cs,h,hm,hl,hv=>by
  simp only[setCells]at h;split at h
  ·rename_i r2 mem2 h1;obtain⟨ρ2,g1,g2,g3,g4,g5⟩:=O1 h1 hm (hv 0 x c rfl rfl);obtain⟨ρ1,k1,k2,k3,k4,k5,k6⟩:=Ew xs mem2 mem1 ρ2 r2 r1 (j+1) ks cs h g2 (by simpa using hl) (fun i x' c' hx hc=>by
    have:=hv (i+1) x' c' (by simpa using hx) (by simpa using hc);rw[g1.len];exact this.mono (AC _) fun id _=>g1.less id)
   refine⟨ρ1,g1.trans k1,k2,k3.trans g3,by simpa using k4,fun ok w' k e' j' v hne hc=>k5 ok w' k e' j' v ?_ (g4 ok w' k e' j' v ?_ hc),fun i k c' hk hc=>?_⟩
   ·rcases hne with h0|h0|h0
    ·exact .inl h0
    ·exact .inr (.inl o_)
    ·exact .inr (.inr (by simp at h0;omega))
   ·rcases hne with h0|h0|h0
    ·exact .inl h0
    ·exact .inr o_
    ·exact .inr (by simp at h0;omega)
   ·cases i with
    |zero=>
     simp at hk hc;subst hk;subst hc;exact k5 _ _ _ _ _ _ (.inr (.inl o_)) (g5.mono fun b hb=>⟨k1.ok b hb,rfl⟩)
    |succ i=>
     simp at hk hc;have:=k6 i k c' hk hc;rw[show j+(i+1)=j+1+i by omega];exact this
  ·cases h
end
end Go.Ev
namespace Go.Ev
open Go.RowKit
section
variable{P:Program}{mem mem':M_}{ρ ρ':Map}{B:Nat}{w w':World}
def Gq{t:TypeId}{i:TypeInfo}(hi:P.info? t=some i){b o:Nat}{cv:Value}(hs:cv.cells.size=i.size){c:Array Value}{T:TypeId}(hg:w.heap[b]? =some (.cells c T (0,0)))(hl:o+cv.cells.size<=c.size)(h1:∀v∈cv.cells.toList,v.oneCell'=true):
  (Instr.storeAt t (.pointer (some ⟨b,o,none⟩)) cv).run P w=.ok () (w.setCells b o cv.cells.toList):=by
 have h2:=run_storeCells_cells (P:=P) b o cv.cells.toList 0 w (fun j hj=>by simp[World.cell?,hg];simp at hj;omega) (fun j hj=>by simp[World.frozen?,hg]) h1;simp[Instr.storeAt,Instr.sureAddr,storeVar,run_sizeOf hi,hs,h2]
def SV{mem1:M_}{t:TypeId}{x v cx cv:Value}(h:VV P mem t x v=some mem1)(hm:MemR mem ρ B w)(hx:V ρ mem.length x cx)(hv:V ρ mem.length v cv):
  ∃w' ρ1,(Instr.storeAt t cx cv).run P w=.ok () w'∧MemR mem1 ρ1 B w'∧mem1.length=mem.length∧(∀i,Less ρ ρ1 i)∧∀W0,Below B W0 w->Below B W0 w':=by
 unfold VV at h;split at h
 ·rename_i id e j i hi hone;have hunk:=YC hone;obtain⟨hlen,hcells⟩:=hv.cells hunk;have hones:∀u∈cv.cells.toList,u.oneCell'=true:=by
   intro u hu;obtain⟨n,hn⟩:=List.getElem?_of_mem hu;have hlt:n<(Bc v).length:=by
    rw[hlen];have:=(A0.1 hn).1;simpa using this
   have h1:=hcells n _ u (AK hlt) (by simpa using hn);exact QS h1 (List.all_eq_true.1 hone _ (List.getElem_mem hlt))
  split at h
  ·rename_i hsz0;obtain⟨hsz,hpos⟩:=hsz0;split at h
   ·rename_i cells hb;split at h
    ·rename_i hle;cases h;obtain⟨L,hL,hbr⟩:=hm.blk _ _ hb;obtain⟨h1,h2,h3,h4,c,T,h5,h6,h7,h0⟩:=hbr;cases hx with
     |ptrDead g1 g2=>exact absurd g2 (BX hm hb)
     |@ptr _ _ _ M g1 g2 g3=>
      rw[hL]at g2;cases g2;have he0:e=0:=o_;subst he0;have hadr:L.adr 0 j=⟨L.b,j,none⟩:=by simp[Loc.adr,h2]
      have hfit:j+cv.cells.size<=c.size:=o_;obtain⟨c',k1,k2,k3,k4,k5⟩:=CQ cv.cells.toList j w c h5 (by simpa using hfit);refine⟨_,ρ,by rw[hadr];exact Gq hi o_ h5 hfit hones,?_,y_,fun _=>.inl rfl,fun W0 hW=>below_setCells hW h1⟩;refine hm.write hb (fun _ _ _ h=>by cases h) rfl hL h0 h4 k4 k5 ⟨h1,h2,h3,h4,c',T,k1,z_,fun n p q hp hq=>?_,h0⟩;rw[k3]at hq;simp only[List.length_set];rw[List.append_assoc,List.getElem?_append]at hp;simp only[List.length_take]at hp;by_cases hn1:n<j
      ·rw[AM o_]at hp;rw[AL o_]at hq;rw[List.getElem?_take,AM hn1]at hp;exact h7 n p q hp hq
      ·rw[AL o_,List.getElem?_append]at hp;by_cases hn2:n<j+cv.cells.size
       ·rw[AM o_]at hp;rw[AM z_]at hq;rw[show n-min j cells.length=n-j by omega]at hp;exact hcells (n-j) p q hp (by simpa using hq)
       ·rw[AL o_]at hp;rw[AL z_]at hq;rw[List.getElem?_drop]at hp;rw[show j+i.size+(n-min j cells.length-(Bc v).length)=n by omega]at hp;exact h7 n p q hp hq
    ·cases h
   ·rename_i ks r hb;split at h
    ·rename_i r1 mem2 hset;split at h
     ·rename_i ks' r' hb2;cases h;obtain⟨ρ1,k1,k2,k3,k4,k5,k6⟩:=Ew (w:=w) (Bc v) mem mem2 ρ r r1 j (ks.drop j) cv.cells.toList hset hm (by simp[hlen]) (fun n p q hp hq=>hcells n p q hp (by simpa using hq));obtain⟨L,hL,hbr⟩:=hm.blk _ _ hb;have hkeep:mem2[id]? =mem[id]? ∧ρ1 id=ρ id:=by
       rcases k1.blk id with h1|⟨ks2,r2,h1⟩
       ·exact h1
       ·rw[h1]at hb2;cases hb2
      rw[hkeep.1,hb]at hb2;cases hb2;cases hx with
      |ptrDead g1 g2=>exact absurd g2 (BX hm hb)
      |@ptr _ _ _ M g1 g2 g3=>
       rw[hL]at g2;cases g2;obtain⟨b1,b2,b3,b4,b0⟩:=hbr;have hn:0<r.n:=o_;obtain⟨b5,b6,b7⟩:=b3 rfl;obtain⟨b8,c,T,b9,b10⟩:=b7 o_;simp only[List.length_drop]at k4;have hrow:e*L.sz+L.sz<=L.tot*L.sz:=by
        have:(e+1)*L.sz<=L.tot*L.sz:=AH _ o_
        rwa [Nat.add_mul,Nat.one_mul]at this
       have hfit':L.off+e*L.sz+j+cv.cells.size<=c.size:=o_;obtain⟨c',q1,q2,q3,q4,q5⟩:=CQ cv.cells.toList (L.off+e*L.sz+j) w c b9 (by simpa using hfit');refine⟨_,ρ1,Gq hi o_ b9 hfit' hones,?_,by simp[k1.len],k1.less,fun W0 hW=>below_setCells hW b8⟩;have hL1:ρ1 id=some L:=hkeep.2.trans hL;have hb1:mem2[id]? =some (some (.row ks true r)):=hkeep.1.trans hb;refine k2.write hb1 (fun _ _ _ h=>by cases h) rfl hL1 b0 o_ q4 q5 ⟨o_,b2,fun _=>⟨b5,o_,fun _=>⟨b8,c',T,q1,o_⟩⟩,fun _=>⟨(fun hf=>by cases hf),?_⟩,b0⟩;have hO:Az mem2 ρ1 id L.b:=⟨L,_,hL1,hb1,rfl,.inl ⟨o_,rfl⟩⟩;have hok:∀b,okB mem2 ρ1 w b->okB (mem2.set id (some (.row ks true r1))) ρ1 (w.setCells L.b (L.off+e*L.sz+j) cv.cells.toList) b∧(w.setCells L.b (L.off+e*L.sz+j) cv.cells.toList).heap[b]? =w.heap[b]? :=by
        intro b hb';refine⟨⟨by rw[q5];exact hb'.1,fun n ⟨M,blk,m1,m3,m4,m2⟩=>?_⟩,q4 b fun e'=>hb'.2 id (e'▸hO)⟩;rcases Ea m3 with⟨m5,m6⟩|⟨m5,m6,_⟩
        ·exact hb'.2 n ⟨M,blk,m1,m6,m4,m2⟩
        ·subst m5;exact hb'.2 n ⟨M,_,m1,hb1,rfl,m2⟩
       cases(b4 hn).2 with
       |mk v0 v1 v2=>
        have hcell:∀(e' j':Nat)(k:CK),e'<r.n->ks[j']? =some k->c[L.off+e'*L.sz+j']? =some (v0 e' j'):=by
         intro e' j' k he hk;have:=v1 e' j' k he hk;rw[<-b2]at this;simpa [World.cell?,b9]using this
        refine .mk (fun e' j'=>if e'=e∧j<=j'∧j'<j+cv.cells.size then cv.cells.toList.getD (j'-j) undef else v0 e' j') (fun e' j' k he hk=>?_) (fun e' j' k he hk=>?_)
        ·have hj':j'<L.sz:=by rw[b2];exact(A0.1 hk).1
         have hc:=hcell e' j' k o_ hk;simp only[World.cell?,q1,Option.isSome_none,Bool.false_eq_true,if_false,q3];rw[<-b2];by_cases hin:e'=e∧j<=j'∧j'<j+cv.cells.size
         ·obtain⟨rfl,p1,p2⟩:=hin;rw[AM z_,AM ⟨rfl,p1,p2⟩];rw[show L.off+e'*L.sz+j'-(L.off+e'*L.sz+j)=j'-j by omega];have:j'-j<cv.cells.toList.length:=z_;rw[AK this,List.getD_eq_getElem?_getD,AK this,Option.getD_some]
         ·rw[AL hin,AL,hc];rintro⟨p1,p2⟩;simp at p2;apply hin;have hee:e'=e:=by
           rcases Nat.lt_trichotomy e' e with hlt|heq|hgt
           ·exfalso;have:(e'+1)*L.sz<=e*L.sz:=AH _ o_;rw[Nat.add_mul,Nat.one_mul]at this;omega
           ·exact heq
           ·exfalso;have:(e+1)*L.sz<=e'*L.sz:=AH _ o_;rw[Nat.add_mul,Nat.one_mul]at this;omega
          subst hee;exact⟨rfl,o_,o_⟩
        ·by_cases hin:e'=e∧j<=j'∧j'<j+cv.cells.size
         ·obtain⟨rfl,p1,p2⟩:=hin;have hif:(if e'=e'∧j<=j'∧j'<j+cv.cells.size then cv.cells.toList.getD (j'-j) undef else v0 e' j')=cv.cells.toList.getD (j'-j) undef:=AM ⟨rfl,p1,p2⟩;show CellR _ _ k r1 e' j' (if e'=e'∧j<=j'∧j'<j+cv.cells.size then cv.cells.toList.getD (j'-j) undef else v0 e' j');rw[hif];have hlt:j'-j<cv.cells.toList.length:=z_;have hc2:cv.cells.toList[j'-j]? =some (cv.cells.toList.getD (j'-j) undef):=by
           rw[List.getD_eq_getElem?_getD,AK hlt,Option.getD_some]
          have:=k6 (j'-j) k _ (by rw[List.getElem?_drop,show j+(j'-j)=j' by omega];exact hk) hc2;rw[show j+(j'-j)=j' by omega]at this;exact this.mono hok
         ·simp only[AL hin];have h8:=v2 e' j' k o_ hk;have h9:=k5 (okB mem ρ w) w k e' j' _ (by rw[hlen];omega) h8;exact(h9.mono fun b hb'=>⟨k1.ok b hb',rfl⟩).mono hok
     ·cases h
    ·cases h
   ·cases h
  ·cases h
 ·cases h
end
section
variable{P:Program}{mem mem':M_}{ρ ρ':Map}{B:Nat}{w w':World}
def D9{W0:World}(hW:W0.heap.size<=w.heap.size)(h:Below W0.heap.size W0 w)(o:Obj):Below W0.heap.size W0 (w.alloc o):=h.alloc hW o
def MemR.box(h:MemR mem ρ B w)(hB:B<=w.heap.size){xs:List Value}{c:Array Value}(T:TypeId)(hs:c.size=xs.length)(hv:∀(i:Nat)(x y:Value),xs[i]? =some x->c[i]? =some y->V ρ mem.length x y):
  ∃L,L.n=1∧L.adr 0 0=⟨w.heap.size,0,none⟩∧MemR (mem++[some (.box xs)]) (Map.snoc ρ mem.length L) B (w.alloc (.cells c T)):=by
 refine⟨⟨w.heap.size,0,0,1,1,true,s0⟩,rfl,rfl,h.alloc (Below.alloc (Below.refl _ _) (AC _) _) (fun _=>Loc.fresh rfl fun _=>AC _) ⟨hB,rfl,rfl,Nat.one_pos,c,T,?_,hs,fun j x y hx hy=>?_,rfl⟩⟩
 ·show(w.heap.push _)[w.heap.size]? =_;simp
 ·exact(hv j x y hx hy).mono y_ fun id hid=>.inl (Map.snoc_old hid)
def MemR.newRow(h:MemR mem ρ B w)(hB:B<=w.heap.size){ks:List CK}{r:Row}{c:Array Value}{T:TypeId}{tot:Nat}{w1:World}(hw:Below w.heap.size w w1)(hsz:w1.heap.size=w.heap.size)(hc:tot*ks.length<=c.size)(hn:r.n<=tot)
  (v:Nat->Nat->Value) (h1:∀e j k,e<r.n->ks[j]? =some k->c[e*ks.length+j]? =some (v e j)) (h2:∀e j k,e<r.n->ks[j]? =some k->CellR (okB mem ρ w) w k r e j (v e j)):
  MemR (mem++[some (.row ks true r)]) (Map.snoc ρ mem.length ⟨w.heap.size,0,ks.length,tot,r.n,true,s0⟩) B (w1.alloc (.cells c T)):=by
 have hb:Below w.heap.size w (w1.alloc (.cells c T)):=hw.alloc o_ _;have hg:(w1.alloc (.cells c T)).heap[w.heap.size]? =some (.cells c T (0,0)):=by
  show(w1.heap.push _)[w.heap.size]? =_;rw[<-hsz];simp
 refine h.alloc hb (fun _=>Loc.fresh rfl fun _=>AC _) ⟨rfl,rfl,fun _=>⟨rfl,hn,fun _=>⟨hB,c,T,hg,by simpa using hc⟩⟩,fun _=>⟨(fun hf=>by cases hf),.mk v (fun e j k he hk=>?_) (fun e j k he hk=>?_)⟩,rfl⟩
 ·have:=h1 e j k he hk;simp[World.cell?,hg,this]
 ·refine(h2 e j k he hk).mono fun b hbk=>⟨⟨Nat.lt_of_lt_of_le hbk.1 hb.size,fun id ⟨M,blk,g1,g3,g4,g2⟩=>?_⟩,hb.block b hbk.1⟩;rcases BN g3 with⟨g6,g7⟩|⟨g6,_⟩
  ·rw[Map.snoc_old g7]at g1;exact hbk.2 id ⟨M,blk,g1,g6,g4,g2⟩
  ·subst g6;rw[Map.snoc_new]at g1;cases g1;obtain⟨_,g7⟩:=Loc.foot_s0 rfl g2;have:=hbk.1;simp at g7;omega
def V.newRow{n:Nat}{ks:List CK}{w:World}{tot cap:Nat}{N:Nat}(hN:mem.length<N)(hn:n<=cap)(ht:cap<=tot):V (Map.snoc ρ mem.length ⟨w.heap.size,0,ks.length,tot,n,true,s0⟩) N (.slice (some ⟨mem.length,0,some 0⟩) n 0) (.slice (some ⟨w.heap.size,0,none⟩) n cap):=
 .slice (L:=⟨w.heap.size,0,ks.length,tot,n,true,s0⟩) hN Map.snoc_new y_ hn (fun _=>by simp[Loc.adr]) (fun _=>⟨by simpa using ht,.inr (by simp[Loc.adr])⟩)
def DC:∀{ks:List CK}{vs:List Value},BR ks vs=true->vs.length=ks.length∧∀(j:Nat)(k:CK),ks[j]? =some k->∃v,vs[j]? =some v∧∀(ok:Nat->Prop)(w:World)(n e j':Nat),CellR ok w k (Row.zeros n) e j' v
 |[],[],_=>⟨rfl,fun j k h=>by simp at h⟩
 |ck::ks,[],h=>by cases ck<;>simp[BR]at h
 |[],v::vs,h=>by simp[BR]at h
 |ck::ks,v::vs,h=>by
  have key:BR ks vs=true∧∀(ok:Nat->Prop)(w:World)(n e j':Nat),CellR ok w ck (Row.zeros n) e j' v:=by
   unfold BR at h;split at h
   ·rename_i heq1 heq2;cases heq1
   ·rename_i k ks' k' vs' heq1 heq2;cases heq1;cases heq2;simp only[A2]at h;cases same_eq h.1;exact⟨h.2,fun ok w n e j'=>.int⟩
   ·rename_i ks' vs' heq1 heq2;cases heq1;cases heq2;exact⟨h,fun ok w n e j'=>.bool⟩
   ·rename_i ks' s vs' heq1 heq2;cases heq1;cases heq2;simp only[A2]at h;have hs:s=ByteArray.empty:=by
     obtain⟨⟨l⟩⟩:=s;have:l=[]:=by simpa using h.1
     subst this;rfl
    subst hs;exact⟨h.2,fun ok w n e j'=>.str⟩
   ·rename_i sub ks' vs' heq1 heq2;cases heq1;cases heq2;exact⟨h,fun ok w n e j'=>.slice0 rfl⟩
   ·cases h
  obtain⟨h1,h2⟩:=DC key.1;refine⟨by simp[h1],fun j k hk=>?_⟩;cases j with
  |zero=>simp at hk;subst hk;exact⟨v,rfl,key.2⟩
  |succ j=>simp at hk;obtain⟨u,hu,hc⟩:=h2 j k hk;exact⟨u,by simpa using hu,hc⟩
def Gy{z:Array Value}{n sz e j:Nat}(hz:z.size=sz)(he:e<n)(hj:j<sz){v:Value}(hv:z[j]? =some v):(madeCells z (n*sz))[e*sz+j]? =some v:=by
 have h1:e*sz+j<n*sz:=by
  have:(e+1)*sz<=n*sz:=AH _ o_;rw[Nat.add_mul]at this;omega
 have h3:(e*sz+j)%sz=j:=by
  rw[Nat.add_comm,Nat.add_mul_mod_self_right,Nat.mod_eq_of_lt hj]
 have hjz:j<z.size:=o_;have:z[j]=v:=by
  rw[AJ hjz]at hv;exact Option.some.inj hv
 have h4:z[j]! =v:=by rw[getElem!_pos z j hjz,this]
 simp[madeCells,h1,hz,h3,h4]
def Bi(z:Value):z.cells.toList=Bc z:=by cases z<;>rfl
def NG(h:MemR mem ρ B w)(hB:B<=w.heap.size){t el:TypeId}{ei:TypeInfo}{z:Value}(ht:P.underlying t=some (.slice el))(hi:P.info? el=some ei)(hz:ei.zero=some z){ks:List CK}(hsz:ei.size=ks.length)(hzo:BR ks (Bc z)=true)
  (hbytes:ei.bytes<=1000) (kl kc:IntKind) {l c:Int} (h0:0<=l) (hlc:l<=c) (hc:c<=100000000000):
  ∃L cv w',(Instr.makeSlice t (.int kl l) (.int kc c)).run P w=.ok cv w'∧MemR (mem++[some (.row ks true (Row.zeros l.toNat))]) (Map.snoc ρ mem.length L) B w'∧V (Map.snoc ρ mem.length L) (mem.length+1) (sl0 l.toNat mem.length) cv∧
   ∀W0:World,W0.heap.size<=w.heap.size->Below W0.heap.size W0 w->Below W0.heap.size W0 w':=by
 have hrun:=run_make (P:=P) w t el ei z ht hi hz kl kc l c h0 hlc (by
  have h1:(ei.bytes:Int)*c<=1000*c:=Int.mul_le_mul_of_nonneg_right o_ o_;omega) o_
 obtain⟨g1,g2⟩:=DC hzo;have hzs:z.cells.size=ks.length:=by rw[<-g1,<-Bi];simp
 have hcell:∀(j:Nat)(k:CK),ks[j]? =some k->∃v,z.cells[j]? =some v∧∀(ok:Nat->Prop)(w:World)(n e j':Nat),CellR ok w k (Row.zeros n) e j' v:=by
  intro j k hk;obtain⟨v,hv,hc⟩:=g2 j k hk;rw[<-Bi]at hv;exact⟨v,by simpa using hv,hc⟩
 refine⟨⟨w.heap.size,0,ks.length,c.toNat,l.toNat,true,s0⟩,_,_,hrun,?_,V.newRow o_ o_ (AC _),fun W0 hW hb=>D9 hW hb _⟩;refine MemR.newRow h hB (r:=Row.zeros l.toNat) (tot:=c.toNat) (Below.refl _ _) rfl (by rw[size_madeCells,hsz];exact AC _) (show l.toNat<=c.toNat by omega) (fun _ j=>z.cells.getD j undef) (fun e j k he hk=>?_) (fun e j k he hk=>?_)
 ·obtain⟨v,hv,_⟩:=hcell j k hk;have hj:j<ks.length:=(A0.1 hk).1;rw[hsz];have he':e<l.toNat:=he;rw[Gy hzs (show e<c.toNat by omega) hj hv,Array.getD_eq_getD_getElem?,hv,Option.getD_some]
 ·obtain⟨v,hv,hcr⟩:=hcell j k hk;have:z.cells.getD j undef=v:=by rw[Array.getD_eq_getD_getElem?,hv,Option.getD_some]
  rw[this];exact hcr _ _ _ _ _
def Q4{N off:Nat}:∀(xs ys:List Value)(k:Nat)(c d:Array Value),xs.length=ys.length->(∀(i:Nat)(x y:Value),xs[i]? =some x->ys[i]? =some y->V ρ N x y)->c.size=d.size->(∀(i:Nat)(x y:Value),c[i]? =some x->d[i]? =some y->V ρ N x y)->
  ((xs.zipIdx k).foldl (fun cs p=>cs.setIfInBounds (off+p.2) p.1) c).size=((ys.zipIdx k).foldl (fun cs p=>cs.setIfInBounds (off+p.2) p.1) d).size∧
  ((xs.zipIdx k).foldl (fun cs p=>cs.setIfInBounds (off+p.2) p.1) c).size=c.size∧
  ∀(i:Nat)(x y:Value),((xs.zipIdx k).foldl (fun cs p=>cs.setIfInBounds (off+p.2) p.1) c)[i]? =some x->((ys.zipIdx k).foldl (fun cs p=>cs.setIfInBounds (off+p.2) p.1) d)[i]? =some y->V ρ N x y
 |[],[],k,c,d,_,_,hs,hv=>⟨hs,rfl,hv⟩
 |[],y::ys,k,c,d,hl,_,_,_=>by simp at hl
 |x::xs,[],k,c,d,hl,_,_,_=>by simp at hl
 |x::xs,y::ys,k,c,d,hl,hxy,hs,hv=>by
  simp only[List.zipIdx_cons,List.foldl_cons];have h0:=Q4 (off:=off) xs ys (k+1) (c.setIfInBounds (off+k) x) (d.setIfInBounds (off+k) y) (by simpa using hl) (fun i p q hp hq=>hxy (i+1) p q (by simpa using hp) (by simpa using hq)) (by simp[hs]) (fun i p q hp hq=>by
   rw[Array.getElem?_setIfInBounds]at hp hq;by_cases hi:off+k=i
   ·rw[AM hi]at hp hq;split at hp
    ·split at hq
     ·cases hp;cases hq;exact hxy 0 x y rfl rfl
     ·cases hq
    ·cases hp
   ·rw[AL hi]at hp hq;exact hv i p q hp hq)
  exact⟨h0.1,by rw[h0.2.1];simp,h0.2.2⟩
def XB{N:Nat}{place:Nat->Option (Nat×Nat)}:∀(ps qs:List (Nat×Value))(c d out:Array Value),Instr.fill place c ps=some out->ps.length=qs.length->(∀(i:Nat)(p q:Nat×Value),ps[i]? =some p->qs[i]? =some q->p.1=q.1∧Iz p.2=false∧V ρ N p.2 q.2)->
  c.size=d.size->(∀(i:Nat)(x y:Value),c[i]? =some x->d[i]? =some y->V ρ N x y)->
  ∃out',Instr.fill place d qs=some out'∧out.size=out'.size∧out.size=c.size∧∀(i:Nat)(x y:Value),out[i]? =some x->out'[i]? =some y->V ρ N x y
 |[],[],c,d,out,h,_,_,hs,hv=>by simp[Instr.fill]at h;subst h;exact⟨d,rfl,hs,rfl,hv⟩
 |[],q::qs,c,d,out,h,hl,_,_,_=>by simp at hl
 |p::ps,[],c,d,out,h,hl,_,_,_=>by simp at hl
 |(i,v)::ps,(i',v')::qs,c,d,out,h,hl,hpq,hs,hv=>by
  obtain⟨rfl,hu,hvv⟩:=hpq 0 (i,v) (i',v') rfl rfl;obtain⟨k1,k2⟩:=hvv.cells hu;rw[<-Bi]at k1 k2;simp only[Array.length_toList]at k1;simp only[Instr.fill]at h⊢;cases hp:place i with
  |none=>rw[hp]at h;cases h
  |some q=>
   obtain⟨off,size⟩:=q;rw[hp]at h;simp only at h⊢;split at h
   ·cases h
   ·rename_i hcond;rw[AL (by rw[<-k1,<-hs];exact hcond)];have h1:=Q4 (ρ:=ρ) (N:=N) (off:=off) v.cells.toList v'.cells.toList 0 c d (by simpa using k1) (fun i p q hp hq=>k2 i p q hp (by simpa using hq)) hs hv;have e1:∀(u:Value)(c:Array Value),u.cells.zipIdx.foldl (fun cs x=>cs.setIfInBounds (off+x.2) x.1) c=(u.cells.toList.zipIdx 0).foldl (fun cs p=>cs.setIfInBounds (off+p.2) p.1) c:=by
     intro u c;rw[<-Array.foldl_toList,Array.toList_zipIdx]
    have e2:(v.cells.zipIdx.foldl (fun cs (x:Value×Nat)=>match x with|(c,j)=>cs.setIfInBounds (off+j) c) c)=(v.cells.toList.zipIdx 0).foldl (fun cs p=>cs.setIfInBounds (off+p.2) p.1) c:=e1 v c
    have e3:(v'.cells.zipIdx.foldl (fun cs (x:Value×Nat)=>match x with|(c,j)=>cs.setIfInBounds (off+j) c) d)=(v'.cells.toList.zipIdx 0).foldl (fun cs p=>cs.setIfInBounds (off+p.2) p.1) d:=e1 v' d
    rw[e2]at h;rw[e3];obtain⟨out',o1,o2,o3,o4⟩:=XB ps qs _ _ out h (by simpa using hl) (fun n p q hp hq=>hpq (n+1) p q (by simpa using hp) (by simpa using hq)) h1.1 h1.2.2;exact⟨out',o1,o2,o3.trans h1.2.1,o4⟩
end
section
variable{P:Program}{mem mem':M_}{ρ ρ':Map}{B:Nat}{w w':World}
def Vh{N:Nat}:∀{ks:List CK}{vs:List Value},BR ks vs=true->∀(j:Nat)(v:Value),vs[j]? =some v->V ρ N v v
 |[],[],_,j,v,h=>by simp at h
 |ck::ks,[],h,j,v,hv=>by simp at hv
 |[],v::vs,h,j,u,hv=>by simp[BR]at h
 |ck::ks,v::vs,h,j,u,hv=>by
  have key:BR ks vs=true∧V ρ N v v:=by
   unfold BR at h;split at h
   ·rename_i heq1 heq2;cases heq1
   ·rename_i k ks' k' vs' heq1 heq2;cases heq1;cases heq2;simp only[A2]at h;exact⟨h.2,.int⟩
   ·rename_i ks' vs' heq1 heq2;cases heq1;cases heq2;exact⟨h,.bool⟩
   ·rename_i ks' s vs' heq1 heq2;cases heq1;cases heq2;simp only[A2]at h;exact⟨h.2,.str⟩
   ·rename_i sub ks' vs' heq1 heq2;cases heq1;cases heq2;exact⟨h,.sliceNil⟩
   ·cases h
  cases j with
  |zero=>simp at hv;subst hv;exact key.2
  |succ j=>simp at hv;exact Vh key.1 j u hv
def Dx{α:Type}{l:List α}{a n i:Nat}{x:α}(h:((l.drop a).take n)[i]? =some x):i<n∧l[a+i]? =some x:=by
 rw[List.getElem?_take]at h;split at h
 ·rw[List.getElem?_drop]at h;exact⟨by assumption,h⟩
 ·cases h
def KX{ks:List CK}{n:Nat}{cells ccs:List Value}(hcl:cells.length=n*ks.length)(hcc:ccs.length=cells.length):∀(m:Nat)(mem mem1:M_)(ρ:Map)(r r1:Row),Po mem ks n cells m r=some (r1,mem1)->m<=n->MemR mem ρ B w->
  (∀(i:Nat)(x c:Value),cells[i]? =some x->ccs[i]? =some c->V ρ mem.length x c)->
  ∃ρ1,Kept mem ρ w mem1 ρ1∧MemR mem1 ρ1 B w∧r1.n=r.n∧(∀(ok:Nat->Prop)(w':World)(k:CK)(e j:Nat)(v:Value),e<n-m->CellR ok w' k r e j v->CellR ok w' k r1 e j v)∧
   ∀(e j:Nat)(k:CK)(c:Value),n-m<=e->e<n->ks[j]? =some k->ccs[e*ks.length+j]? =some c->CellR (okB mem1 ρ1 w) w k r1 e j c
 |0,mem,mem1,ρ,r,r1,h,hm,hR,hv=>by
  simp[Po]at h;obtain⟨rfl,rfl⟩:=h;exact⟨ρ,.refl ..,hR,rfl,fun _ _ _ _ _ _ _ hc=>hc,fun e j k c h1 h2=>o_⟩
 |m+1,mem,mem1,ρ,r,r1,h,hm,hR,hv=>by
  simp only[Po]at h;split at h
  ·rename_i r2 mem2 h1;have hrow:(n-(m+1))*ks.length+ks.length<=n*ks.length:=by
    have:(n-(m+1)+1)*ks.length<=n*ks.length:=AH _ o_
    rwa [Nat.add_mul,Nat.one_mul]at this
   obtain⟨ρ2,g1,g2,g3,g4,g5,g6⟩:=Ew (w:=w) _ mem mem2 ρ r r2 0 ks ((ccs.drop ((n-(m+1))*ks.length)).take ks.length) h1 hR z_ (fun i x c hx hc=>hv _ x c (Dx hx).2 (Dx hc).2);obtain⟨ρ1,k1,k2,k3,k4,k5⟩:=KX hcl hcc m mem2 mem1 ρ2 r2 r1 h o_ g2 (fun i x c hx hc=>by
    rw[g1.len];exact(hv i x c hx hc).mono (AC _) fun id _=>g1.less id)
   refine⟨ρ1,g1.trans k1,k2,k3.trans g3,fun ok w' k e j v he hc=>k4 ok w' k e j v o_ (g5 ok w' k e j v (.inl o_) hc),fun e j k c he1 he2 hk hc=>?_⟩;by_cases hee:e=n-(m+1)
   ·subst hee;have hj:j<ks.length:=(A0.1 hk).1;have:=g6 j k c hk (by rw[List.getElem?_take,AM hj,List.getElem?_drop];exact hc);rw[AE]at this;exact k4 _ _ _ _ _ _ o_ (this.mono fun b hb=>⟨k1.ok b hb,rfl⟩)
   ·exact k5 e j k c o_ he2 hk hc
  ·cases h
def MemR.replace(h:MemR mem ρ B w){id:Nat}{ks:List CK}{r r':Row}{L L':Loc}(hid:mem[id]? =some (some (.row ks true r)))(hL:ρ id=some L)(hb:L'.b=L.b)(hpos:0<L'.tot->0<L.tot)
  (hother:∀k,k≠L.b->w'.heap[k]? =w.heap[k]?) (hsame:L.tot=0->w'=w) (hsize:w'.heap.size=w.heap.size)
  (hr:BlkR (mem.set id none++[some (.row ks true r')]) (fun i=>if i=mem.length then some L' else if i=id then none else ρ i) w' B L' (.row ks true r')):
  MemR (mem.set id none++[some (.row ks true r')]) (fun i=>if i=mem.length then some L' else if i=id then none else ρ i) B w':=by
 have hlt:id<mem.length:=(A0.1 hid).1;have get:∀(i:Nat)(b:Blk),(mem.set id none++[some (.row ks true r')])[i]? =some (some b)->(i≠id∧i<mem.length∧mem[i]? =some (some b))∨(i=mem.length∧b=.row ks true r'):=by
  intro i b hi;rcases BN hi with⟨g1,g2⟩|⟨g1,g2⟩
  ·rcases Ea g1 with⟨g3,g4⟩|⟨_,g4,_⟩
   ·exact .inl ⟨g3,by simpa using g2,g4⟩
   ·cases g4
  ·cases g2;exact .inr ⟨by simpa using g1,rfl⟩
 have hs:L.sub=s0:=by
  obtain⟨M,hM,hbr⟩:=h.blk _ _ hid;rw[hL]at hM;cases hM;exact hbr.2.2.2.2
 have hs':L'.sub=s0:=hr.2.2.2.2;have hO:0<L.tot->Az mem ρ id L.b:=fun ht=>⟨L,_,hL,hid,rfl,.inl ⟨ht,rfl⟩⟩;have hown:∀(i b:Nat),Az (mem.set id none++[some (.row ks true r')]) (fun i=>if i=mem.length then some L' else if i=id then none else ρ i) i b->(i≠id∧Az mem ρ i b)∨(i=mem.length∧b=L.b∧Az mem ρ id L.b):=by
  intro i b ⟨M,blk,g1,g3,g4,g2⟩;rcases get i blk g3 with⟨g5,g6,g7⟩|⟨g5,g6⟩
  ·have hne:i≠mem.length:=o_;simp only[hne,g5,if_false]at g1;exact .inl ⟨g5,M,blk,g1,g7,g4,g2⟩
  ·subst g5;simp at g1;subst g1;obtain⟨g8,g9⟩:=Loc.foot_s0 hs' g2;exact .inr ⟨rfl,by rw[g9,hb],hO (hpos g8)⟩
 refine h.step y_ (fun i hi=>?_) (fun b hb'=>⟨⟨by rw[hsize];exact hb'.1,fun i hM=>?_⟩,?_⟩) (fun i b hi=>?_) (fun i hi=>?_) (fun i j b hi hj=>?_)
 ·have hne:i≠mem.length:=o_;by_cases hii:i=id
  ·exact .inr (.inl (by simp[hii];omega))
  ·exact .inl (by simp[hne,hii])
 ·rcases hown i b hM with⟨_,g1⟩|⟨_,g1,g2⟩
  ·exact hb'.2 i g1
  ·exact hb'.2 id (g1▸g2)
 ·rcases Nat.eq_zero_or_pos L.tot with h0|h0
  ·rw[hsame h0]
  ·exact hother b fun e=>hb'.2 id (e▸hO h0)
 ·rcases get i b hi with⟨g5,g6,g7⟩|⟨g5,g6⟩
  ·have hne:i≠mem.length:=o_;refine .inl ⟨g7,by simp[hne,g5],fun M hM hob c hc=>?_,fun p e j ks' r'' _ kps rp hh Lp q1 q2=>?_⟩
   ·rcases Nat.eq_zero_or_pos L.tot with h0|h0
    ·rw[hsame h0]
    ·exact hother _ fun e=>g5 (h.inj i id c ⟨M,b,hM,g7,hob,hc⟩ (e▸hO h0))
   ·have hp:p<mem.length:=(A0.1 q1).1;have hpi:p≠id:=by rintro rfl;rw[hid]at q1;cases q1
    have hpn:p≠mem.length:=o_;refine⟨?_,by simp[hpi,hpn,q2],fun ht=>?_⟩
    ·rw[AQ (by simpa using hp),List.getElem?_set_ne (fun e=>hpi e.symm)];exact q1
    ·rcases Nat.eq_zero_or_pos L.tot with h0|h0
     ·rw[hsame h0]
     ·exact hother _ fun e=>hpi (h.inj p id Lp.b ⟨Lp,_,q2,q1,rfl,.inl ⟨ht,rfl⟩⟩ (e▸hO h0))
  ·subst g5;subst g6;exact .inr ⟨L',y_,hr⟩
 ·have hne:i≠mem.length:=by
   rintro rfl;exact hi (.row ks true r') (by rw[List.getElem?_append_right y_];simp)
  by_cases hii:i=id
  ·simp[hii];omega
  ·simp only[hne,hii,if_false];refine h.dead i fun b hb'=>hi b ?_;have hil:i<mem.length:=(A0.1 hb').1;rw[AQ (by simpa using hil),List.getElem?_set_ne (fun e=>hii e.symm)];exact hb'
 ·rcases hown i b hi with⟨p1,p2⟩|⟨p1,p2,p3⟩<;>rcases hown j b hj with⟨q1,q2⟩|⟨q1,q2,q3⟩
  ·exact h.inj i j b p2 q2
  ·exact absurd (h.inj i id b p2 (q2▸q3)) p1
  ·exact absurd (h.inj j id b q2 (p2▸p3)) q1
  ·omega
end
end Go.Ev

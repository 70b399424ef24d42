import Derived.Test.YtnljjjghpgdmoaaGreatDoorXao
set_option linter.all false
namespace Go.Proofs.YtnljjjghpgdmoaaGreatDoor.Ln
open Go.Ev Go.Lib Go.RowKit
open Go.Dec (G8 D9 Du BO BP)
theorem Iy:∀(l m:List UInt8)(a:Nat),parseUint10 a (l++m)=match parseUint10 a l with
  |.ok b=>parseUint10 b m
  |Go.Lib.NumEnd.syntax=>Go.Lib.NumEnd.syntax
  |.range=>.range
 |[],m,a=>rfl
 |c::r,m,a=>by
  simp only[List.cons_append,parseUint10];split
  ·split
   ·rfl
   ·split
    ·rfl
    ·exact Iy r m _
  ·rfl
theorem Nl:∀(N u:Nat),u<=N->u<=18446744073709551615->parseUint10 0 (decDigits u)=.ok u:=by
 intro N
 induction N with
 |zero=>
  intro u h _;obtain rfl:u=0:=by omega
  rw[decDigits_one (by omega)];simp[parseUint10]
 |succ N ih=>
  intro u h hu;by_cases hs:u<10
  ·rw[decDigits_one hs];simp only[parseUint10];rw[BP _ (by omega),AM (by omega),AL (by omega),AL (by omega)]
   congr 1
   omega
  ·rw[BO hs,Iy,ih (u/10) (by omega) (by omega)];simp only[parseUint10];rw[BP _ (by omega),AM (by omega),AL (by omega),AL (by omega)]
   congr 1
   omega
theorem Y9(n:Int)(h0: -9223372036854775808<=n)(h1:n<=9223372036854775807):atoiAll (itoa n)=.ok n:=by
 by_cases hn:n<0
 ·obtain⟨u,rfl⟩:∃u:Nat,n= -(u:Int):=⟨n.natAbs,by omega⟩;rw[itoa_neg u (by omega)];have hU:parseMag (decDigits u)=.ok u:=by
   unfold parseMag;rw[AL (G8 u)];exact Nl u u (AC _) (by omega)
  unfold atoiAll;have h45:(45:UInt8).toNat=45:=rfl;simp only[h45];rw[AM (by simp),hU];simp only;rw[AL (by simp),AL (by omega),AM trivial]
 ·obtain⟨u,rfl⟩:∃u:Nat,n=(u:Int):=⟨n.toNat,by omega⟩;rw[itoa_nonneg u];have hU:parseMag (decDigits u)=.ok u:=by
   unfold parseMag;rw[AL (G8 u)];exact Nl u u (AC _) (by omega)
  cases hd:decDigits u with
  |nil=>exact absurd hd (G8 u)
  |cons c r=>
   have hc:=D9 u u (AC _) c (by rw[hd];simp);unfold atoiAll;simp only;rw[AL (by omega),<-hd,hU];simp only;rw[AL (by omega),AL (by omega),AL (by omega)]
def sp(k:UInt8):List UInt8->List UInt8×Option (List UInt8)
 |[]=>([],none)
 |c::r=>if c=k then([],some r)else(c::(sp k r).1,(sp k r).2)
theorem Gm(k:UInt8):∀l:List UInt8,l=(sp k l).1++(match(sp k l).2 with|none=>[]|some r=>k::r)
 |[]=>rfl
 |c::r=>by
  unfold sp;by_cases h:c=k
  ·rw[AM h,h];rfl
  ·rw[AL h];have:=Gm k r;show c::r=c::((sp k r).1++_);rw[<-this]
theorem JK(k:UInt8):∀(x y:List UInt8),(∀c∈x,c≠k)->sp k (x++k::y)=(x,some y)
 |[],y,_=>by simp[sp]
 |c::x,y,h=>by
  show sp k (c::(x++k::y))=_;unfold sp;rw[AL (h c (by simp)),JK k x y fun d hd=>h d (by simp[hd])]
theorem Jf(k:UInt8):∀(x:List UInt8),(∀c∈x,c≠k)->sp k x=(x,none)
 |[],_=>rfl
 |c::x,h=>by
  unfold sp;rw[AL (h c (by simp)),Jf k x fun d hd=>h d (by simp[hd])]
theorem GN(k:UInt8):∀l:List UInt8,index l [k]=match(sp k l).2 with|none=> -1|some _=>((sp k l).1.length:Int)
 |[]=>rfl
 |c::r=>by
  unfold index sp;by_cases h:c=k
  ·subst h;rw[AM (by simp[List.isPrefixOf])];rw[AM rfl];rfl
  ·have hp:[(k:UInt8)].isPrefixOf (c::r)=false:=by
    simp only[List.isPrefixOf,Bool.and_eq_false_iff]
    left
    exact beq_eq_false_iff_ne.2 fun e=>h e.symm
   rw[AL (by rw[hp];decide),AL h,GN k r];show(if _ then _ else _)=match(sp k r).2 with|none=>(-1:Int)|some _=>((c::(sp k r).1).length:Int)
   cases(sp k r).2 with
   |none=>rfl
   |some y=>
    simp only[List.length_cons];rw[AL (by simp)];omega
theorem Fz(k:UInt8):∀l:List UInt8,l.take (sp k l).1.length=(sp k l).1∧((sp k l).2=none->(sp k l).1.length=l.length)∧∀r,(sp k l).2=some r->(sp k l).1.length<l.length∧l.drop ((sp k l).1.length+1)=r∧l[(sp k l).1.length]? =some k
 |[]=>⟨rfl,fun _=>rfl,fun r h=>by cases h⟩
 |c::r=>by
  unfold sp;by_cases h:c=k
  ·rw[AM h];exact⟨rfl,(fun h=>by cases h),fun y hy=>by cases hy;exact⟨by simp,by simp,by simp[h]⟩⟩
  ·rw[AL h];obtain⟨h1,h2,h3⟩:=Fz k r;refine⟨by simp[h1],fun hn=>by simp[h2 hn],fun y hy=>?_⟩;obtain⟨a,b,d⟩:=h3 y hy;exact⟨by simp;omega,by simpa using b,by simpa using d⟩
theorem Vm(k:UInt8)(l:List UInt8):cut l [k]=((sp k l).1,(sp k l).2.getD [],(sp k l).2.isSome):=by
 unfold cut;rw[GN k];obtain⟨h1,h2,h3⟩:=Fz k l;cases hs:(sp k l).2 with
 |none=>
  simp only[hs];rw[AL (by omega)];have:=Gm k l;rw[hs]at this;simp only[List.append_nil]at this;rw[<-this];rfl
 |some y=>
  obtain⟨a,b,_⟩:=h3 y hs;simp only[hs];rw[AM (by omega),A9,h1];simp only[List.length_cons,List.length_nil,AE,b];rfl
def pieces(k:UInt8):List UInt8->List (List UInt8)
 |[]=>[[]]
 |c::r=>if c=k then []::pieces k r else match pieces k r with
  |[]=>[[c]]
  |p::ps=>(c::p)::ps
theorem pieces_ne(k:UInt8):∀l:List UInt8,pieces k l≠[]
 |[]=>by simp[pieces]
 |c::r=>by
  unfold pieces;split
  ·simp
  ·split<;>simp
theorem pieces_sp(k:UInt8):∀l:List UInt8,pieces k l=(sp k l).1::(match(sp k l).2 with|none=>[]|some r=>pieces k r)
 |[]=>rfl
 |c::r=>by
  have e:sp k (c::r)=if c=k then([],some r)else(c::(sp k r).1,(sp k r).2):=rfl;have e2:pieces k (c::r)=if c=k then []::pieces k r else match pieces k r with
   |[]=>[[c]]
   |p::ps=>(c::p)::ps:=rfl
  rw[e,e2];by_cases h:c=k
  ·rw[AM h,AM h]
  ·rw[AL h,AL h,pieces_sp k r]
theorem pieces_none(k:UInt8)(x:List UInt8)(h:∀c∈x,c≠k):pieces k x=[x]:=by rw[pieces_sp,Jf k x h]
theorem pieces_app(k:UInt8)(x y:List UInt8)(h:∀c∈x,c≠k):pieces k (x++k::y)=x::pieces k y:=by rw[pieces_sp,JK k x y h]
theorem pieces_join(k:UInt8):∀(x:List UInt8)(r:List (List UInt8)),(∀p∈x::r,∀c∈p,c≠k)->pieces k (x++(r.map (k:: ·)).flatten)=x::r
 |x,[],h=>by rw[List.map_nil,List.flatten_nil,List.append_nil];exact pieces_none k x (h x (by simp))
 |x,y::r,h=>by
  rw[List.map_cons,List.flatten_cons,List.cons_append,pieces_app k x _ (h x (by simp)),pieces_join k y r fun p hp=>h p (by simp[hp])]
theorem UQ(s:ByteArray)(i:Nat):Ae (s.extract 0 i)=(Ae s).take i:=by
 unfold Ae;simp[ByteArray.data_extract,List.extract]
theorem Tu(s:ByteArray)(i:Nat):Ae (s.extract i s.size)=(Ae s).drop i:=by
 unfold Ae;rw[ByteArray.data_extract];show(s.data.extract i s.data.size).toList=_;rw[Array.toList_extract,List.extract,List.take_of_length_le (by simp)]
theorem splS_pieces(k:UInt8):∀(n:Nat)(s:ByteArray),s.size<=n->(CS s ⟨#[k]⟩).map Ae=pieces k (Ae s):=by
 intro n
 induction n with
 |zero=>
  intro s hs;have e:Ae s=[]:=List.eq_nil_of_length_eq_zero (by rw[<-BL];omega);have hi:indexB s ⟨#[k]⟩= -1:=by
   show index (Ae s) [k]= -1;rw[e];rfl
  unfold CS;rw[countB_miss _ _ hi,splitB_zero,e];show [Ae s]=[[]];rw[e]
 |succ n ih=>
  intro s hs;have hx:=GN k (Ae s);rw[pieces_sp];cases h2:(sp k (Ae s)).2 with
  |none=>
   rw[h2]at hx;have hi:indexB s ⟨#[k]⟩= -1:=hx;unfold CS;rw[countB_miss _ _ hi,splitB_zero];have:=Gm k (Ae s);rw[h2]at this;simp only[List.append_nil]at this;show [Ae s]=[(sp k (Ae s)).1];rw[<-this]
  |some r=>
   rw[h2]at hx;have hi:indexB s ⟨#[k]⟩=(((sp k (Ae s)).1.length:Nat):Int):=hx;obtain⟨t1,_,t3⟩:=Fz k (Ae s);obtain⟨a,b,_⟩:=t3 r h2;have hsz:(⟨#[k]⟩:ByteArray).size=1:=rfl;unfold CS;rw[countB_hit s ⟨#[k]⟩ _ (AC _) hi,Nat.add_comm,splitB_hit _ _ _ _ _ hi,List.map_cons,hsz,Nat.add_zero];have e1:Ae (s.extract 0 (sp k (Ae s)).1.length)=(sp k (Ae s)).1:=by rw[UQ,t1]
   have e2:Ae (s.extract ((sp k (Ae s)).1.length+1) s.size)=r:=by rw[Tu,b]
   have hle:(s.extract ((sp k (Ae s)).1.length+1) s.size).size<=n:=by
    rw[BL,e2,<-b,List.length_drop,<-BL];rw[<-BL]at a;omega
   have:=ih _ hle;unfold CS at this;rw[e1,this,e2]
def oneB(s:ByteArray):ByteArray:=txt (sp 10 (Ae s)).1
def restB(s:ByteArray):ByteArray:=txt ((sp 10 (Ae s)).2.getD [])
def okB(s:ByteArray):Bool:=(sp 10 (Ae s)).2.isSome
def pU:Nat->List UInt8->Nat
 |0,_=>0
 |_+1,[]=>0
 |f+1,c::r=>pU f ((sp 10 (c::r)).2.getD [])+1
theorem zQ(k c:UInt8)(r:List UInt8):((sp k (c::r)).2.getD []).length<(c::r).length:=by
 obtain⟨_,_,h3⟩:=Fz k (c::r);cases h:(sp k (c::r)).2 with
 |none=>simp
 |some y=>
  obtain⟨h4,h5,_⟩:=h3 y h;show y.length<_;rw[<-h5,List.length_drop];omega
theorem jZ:∀(f g:Nat)(l:List UInt8),l.length<=f->l.length<=g->pU f l=pU g l
 |0,0,l,_,_=>rfl
 |0,g+1,[],_,_=>rfl
 |0,g+1,c::r,h,_=>by simp at h
 |f+1,0,[],_,_=>rfl
 |f+1,0,c::r,_,h=>by simp at h
 |f+1,g+1,[],_,_=>rfl
 |f+1,g+1,c::r,h1,h2=>by
  have:=zQ 10 c r;simp only[List.length_cons]at h1 h2 this;show pU f _+1=pU g _+1;rw[jZ f g _ (by omega) (by omega)]
theorem nH:∀(f:Nat)(l:List UInt8),pU f l<=f
 |0,_=>AC _
 |f+1,[]=>Nat.zero_le _
 |f+1,c::r=>Nat.succ_le_succ (nH f _)
def lnN(s:ByteArray):Nat:=pU s.size (Ae s)
theorem Qp{s:ByteArray}(h:Ae s≠[]):(restB s).size<s.size:=by
 unfold restB;rw[BV,BL s];cases hb:Ae s with
 |nil=>exact absurd hb h
 |cons c r=>exact zQ 10 c r
theorem lnN_rest{s:ByteArray}(h:Ae s≠[]):lnN s=lnN (restB s)+1:=by
 have h1:=Qp h;unfold lnN;cases hb:Ae s with
 |nil=>exact absurd hb h
 |cons c r=>
  have hs:s.size=(s.size-1)+1:=by have:=BL s;rw[hb,List.length_cons]at this;omega
  rw[hs];show pU (s.size-1) _+1=pU (restB s).size (Ae (restB s))+1;have e:Ae (restB s)=(sp 10 (c::r)).2.getD []:=by unfold restB;rw[Dt,hb]
  rw[e]
  congr 1
  refine jZ _ _ _ ?_ ?_
  ·rw[<-e,<-BL];omega
  ·rw[<-e,<-BL];exact AC _
theorem lnN_nil{s:ByteArray}(h:Ae s=[]):lnN s=0:=by
 unfold lnN;rw[BL,h];rfl
theorem lnN_zero{s:ByteArray}(h:lnN s=0):Ae s=[]:=by
 cases hb:Ae s with
 |nil=>rfl
 |cons c r=>have:=lnN_rest (s:=s) (by rw[hb];simp);omega
theorem lnN_le(s:ByteArray):lnN s<=s.size:=nH _ _
theorem cutN(s:ByteArray):cut (Ae s) (Ae ⟨#[10]⟩)=((sp 10 (Ae s)).1,(sp 10 (Ae s)).2.getD [],(sp 10 (Ae s)).2.isSome):=Vm 10 (Ae s)
theorem one_size(s:ByteArray):(oneB s).size<=s.size:=by
 unfold oneB;rw[BV,BL s];have:=(Fz 10 (Ae s)).1;have h:=congrArg List.length this;rw[List.length_take]at h;omega
theorem rest_le(s:ByteArray):(restB s).size<=s.size:=by
 by_cases h:Ae s=[]
 ·unfold restB;rw[h,BV];exact Nat.zero_le _
 ·exact Nat.le_of_lt (Qp h)
theorem Tm{c:UInt8}(h:45<=c.toNat):c≠32∧c≠10:=⟨fun he=>by rw[he]at h;exact absurd h (by decide),fun he=>by rw[he]at h;exact absurd h (by decide)⟩
theorem itoa_spec(n:Int):∀c∈itoa n,c≠32∧c≠10:=fun c hc=>by
 refine Tm ?_;unfold itoa at hc;split at hc
 ·rcases A8.1 hc with rfl|hc
  ·decide
  ·have:=D9 _ _ (AC _) c hc;omega
 ·have:=D9 _ _ (AC _) c hc;omega
theorem sp_line{x y:List UInt8}(h:∀c∈x,c≠10):okB (txt (x++10::y))=true∧oneB (txt (x++10::y))=txt x∧restB (txt (x++10::y))=txt y:=by
 unfold okB oneB restB;rw[Dt,JK 10 x y h];exact⟨rfl,rfl,rfl⟩
theorem ai_itoa{n:Int}(h:iR n=true):XL (itoa n)=false∧WW (itoa n)=n:=by
 have:=iR_iff.1 h;unfold XL WW;rw[Y9 n this.1 this.2];exact⟨rfl,rfl⟩
end Go.Proofs.YtnljjjghpgdmoaaGreatDoor.Ln
namespace Go.Proofs.YtnljjjghpgdmoaaGreatDoor
open Go.Ev Go.Lib Go.RowKit
def sNl:ByteArray:=⟨⟨[10]⟩⟩
def sSpc:ByteArray:=⟨⟨[32]⟩⟩
def AV(s:ByteArray):Row:=Yp (CS s sSpc)
def Bf(r:Row):Row:=w_ r 1 (r.n-1)
theorem Xx(r:Row)(e n j k:Nat):(w_ r e n).S j k=r.S (e+j) k:=by
 cases e
 ·show r.S j k=r.S (0+j) k;rw[AE]
 ·rfl
theorem UR(x:Nat->Int):∀n,BR x n=(((List.range n).map fun j=>itoa (x j)).map (32:: ·)).flatten
 |0=>rfl
 |n+1=>by
  rw[List.range_succ,List.map_append,List.map_append,List.flatten_append,<-UR x n];simp[BR]
theorem Ue(x:Nat->Int×Int):∀n,Ih x n=(((List.range n).map fun j=>PU (x j)).map (32:: ·)).flatten
 |0=>rfl
 |n+1=>by
  rw[List.range_succ,List.map_append,List.map_append,List.flatten_append,<-Ue x n];simp[Ih]
theorem ZT(wd:List UInt8)(r:List (List UInt8))(h:∀p∈wd::r,∀c∈p,c≠32):CS (txt (wd++(r.map (32:: ·)).flatten)) sSpc=(wd::r).map txt:=by
 have h1:=Ln.splS_pieces 32 (txt (wd++(r.map (32:: ·)).flatten)).size (txt (wd++(r.map (32:: ·)).flatten)) (AC _);rw[Dt,Ln.pieces_join 32 wd r h]at h1;have h2:∀l:List ByteArray,(l.map Ae).map txt=l:=fun l=>by
  rw[List.map_map];refine(List.map_congr_left fun s _=>?_).trans (List.map_id l);exact Hq s
 rw[<-h1];exact(h2 _).symm
theorem Q5(wd:List UInt8)(n:Nat)(f:Nat->List UInt8)(h1:∀c∈wd,c≠32)(h2:∀j,j<n->∀c∈f j,c≠32):
  let s:=txt (wd++(((List.range n).map f).map (32:: ·)).flatten)
  (AV s).n=n+1∧(AV s).S 0 0=txt wd∧(Bf (AV s)).n=n∧∀j,j<n->(Bf (AV s)).S j 0=txt (f j):=by
 intro s;have hs:CS s sSpc=(wd::(List.range n).map f).map txt:=ZT wd _ fun p hp=>by
  rcases A8.1 hp with rfl|hp
  ·exact h1
  ·obtain⟨j,hj,rfl⟩:=List.mem_map.1 hp;exact h2 j (List.mem_range.1 hj)
 have hn:(AV s).n=n+1:=by
  show(CS s sSpc).length=_;rw[hs];simp
 have hS:∀i,(AV s).S i 0=((wd::(List.range n).map f).map txt).getD i .empty:=fun i=>by
  show(CS s sSpc).getD i .empty=_;rw[hs]
 refine⟨hn,hS 0,?_,fun j hj=>?_⟩
 ·show(w_ (AV s) 1 ((AV s).n-1)).n=n;rw[wn_,hn];rfl
 ·show(w_ (AV s) 1 ((AV s).n-1)).S j 0=_;rw[Xx,hS,Nat.add_comm];simp[List.getD_eq_getElem?_getD,hj]
theorem vI(n:Int):∀c∈itoa n,c≠32:=fun c hc=>(Ln.itoa_spec n c hc).1
theorem dJ(q:Int×Int):∀c∈PU q,c≠32∧c≠10:=fun c hc=>by
 unfold PU Rt.txL at hc;split at hc
 ·split at hc
  ·rcases List.mem_append.1 hc with h|h
   ·exact Ln.itoa_spec _ c h
   ·rcases A8.1 h with rfl|h
    ·decide
    ·exact Ln.itoa_spec _ c h
  ·exact Ln.itoa_spec _ c hc
 ·cases hc
theorem iL{word:ByteArray}{x:Nat->Int}{n:Nat}(hw:∀c∈Ae word,c≠32)(hx:∀j,j<n->iR (x j)=true)(hn:n<=1000000):
  let s:=txt (Ae word++BR x n)
  (AV s).n=n+1∧(AV s).S 0 0=word∧BN (Bf (AV s))=true∧DJ (Bf (AV s))=true∧(BD (Bf (AV s))).n=n∧∀j,j<n->(BD (Bf (AV s))).I j 0=x j:=by
 intro s;have hs:s=txt (Ae word++(((List.range n).map fun j=>itoa (x j)).map (32:: ·)).flatten):=by rw[<-UR]
 obtain⟨h1,h2,h3,h4⟩:=Q5 (Ae word) n (fun j=>itoa (x j)) hw (fun j _=>vI _);rw[<-hs]at h1 h2 h3 h4;obtain⟨g1,g2⟩:=dN (Bf (AV s));have hB:DJ (Bf (AV s))=true:=by
  rw[g1,Bool.not_eq_true',anyF_false];intro j _ hj;rw[h3]at hj;rw[h4 j (by omega),Dt];exact(Ln.ai_itoa (hx j (by omega))).1
 obtain⟨g3,g4⟩:=g2 hB;refine⟨h1,h2.trans (Hq word),VR (by rw[h3];exact hn) (fun j hj=>?_),hB,g3.trans h3,fun j hj=>?_⟩
 ·rw[h3]at hj;rw[h4 j hj,BV];have:=ES (hx j hj);omega
 ·rw[g4 j (by rw[h3];exact hj),h4 j hj,Dt];exact(Ln.ai_itoa (hx j hj)).2
theorem Zz{word:ByteArray}{x:Nat->Int×Int}{n:Nat}(hw:∀c∈Ae word,c≠32)(hx:∀j,j<n->Rt.goodR (x j).1 (x j).2)(hq:∀j,iQ (x j)=true)(hn:n<=1000000):
  let s:=txt (Ae word++Ih x n)
  (AV s).n=n+1∧(AV s).S 0 0=word∧BN (Bf (AV s))=true∧Em (Bf (AV s))=true∧(Dy (Bf (AV s))).n=n∧∀j,j<n->(Dy (Bf (AV s))).I j 0=(x j).1∧(Dy (Bf (AV s))).I j 1=(x j).2:=by
 intro s;have hs:s=txt (Ae word++(((List.range n).map fun j=>PU (x j)).map (32:: ·)).flatten):=by rw[<-Ue]
 obtain⟨h1,h2,h3,h4⟩:=Q5 (Ae word) n (fun j=>PU (x j)) hw (fun j _ c hc=>(dJ _ c hc).1);rw[<-hs]at h1 h2 h3 h4;obtain⟨g1,g2⟩:=bM (Bf (AV s));have hB:Em (Bf (AV s))=true:=by
  rw[g1,Bool.not_eq_true',anyF_false];intro j _ hj;rw[h3]at hj;rw[h4 j (by omega),Dt];have:Rt.rpE (PU (x j))=0:=(Rt.rp_complete (hx j (by omega))).1;rw[this];rfl
 obtain⟨g3,g4⟩:=g2 hB;refine⟨h1,h2.trans (Hq word),VR (by rw[h3];exact hn) (fun j hj=>?_),hB,g3.trans h3,fun j hj=>?_⟩
 ·rw[h3]at hj;rw[h4 j hj,BV];have:=Sm (hq j);omega
 ·obtain⟨g5,g6⟩:=g4 j (by rw[h3];exact hj);rw[g5,g6,h4 j hj,Dt];exact(Rt.rp_complete (hx j hj)).2
end Go.Proofs.YtnljjjghpgdmoaaGreatDoor
namespace Go.Ev
open Go.RowKit
variable{ρ:Map}
def bx0:Value:=.pointer (some ⟨0,0,some 0⟩)
def bx1:Value:=.pointer (some ⟨1,0,some 0⟩)
def qI:Value->Bool
 |.pointer (some ⟨0,0,some 0⟩)=>true
 |.pointer (some ⟨1,0,some 0⟩)=>true
 |.chan none=>true
 |.tuple xs=>xs.toList.all Ce
 |x=>Eg x
theorem Yq{x:Value}(h:qI x=true):x=bx0∨x=bx1∨x=.chan none∨(∃xs,x=.tuple xs∧xs.toList.all Ce=true)∨Eg x=true:=by
 unfold qI at h;split at h
 ·exact .inl rfl
 ·exact .inr (.inl rfl)
 ·exact .inr (.inr (.inl rfl))
 ·exact .inr (.inr (.inr (.inl ⟨_,rfl,h⟩)))
 ·exact .inr (.inr (.inr (.inr h)))
theorem WZ{N:Nat}{id e j:Nat}{L:Loc}{y y':Value}(hL:ρ id=some L)(h:V ρ N (.pointer (some ⟨id,e,some j⟩)) y)(h':V ρ N (.pointer (some ⟨id,e,some j⟩)) y'):y=y':=by
 cases h with
 |ptrDead _ h2=>rw[hL]at h2;cases h2
 |ptr _ h2 _=>
  cases h' with
  |ptrDead _ h3=>rw[hL]at h3;cases h3
  |ptr _ h3 _=>
   rw[h2]at h3;cases h3;rfl
theorem tK{ρ1:Map}{N N1:Nat}{y0 y1:Value}{L0 L1:Loc}(h0:ρ 0=some L0)(h1:ρ 1=some L1)(a0:V ρ N bx0 y0)(a1:V ρ N bx1 y1)(b0:V ρ1 N1 bx0 y0)(b1:V ρ1 N1 bx1 y1){x y:Value}(hx:qI x=true)(hv:V ρ N x y):V ρ1 N1 x y:=by
 rcases Yq hx with rfl|rfl|rfl|⟨xs,rfl,h⟩|h
 ·rw[WZ h0 hv a0];exact b0
 ·rw[WZ h1 hv a1];exact b1
 ·exact .unk
 ·cases hv with
  |@tuple _ ys g1 g2=>
   refine .tuple g1 fun i x y hx hy=>?_;have hp:=List.all_eq_true.1 h x (by
    rw[<-Array.getElem?_toList]at hx;exact List.mem_of_getElem? hx)
   rw[(g2 i x y hx hy).atom1_eq hp];exact V.refl1 hp
 ·rw[hv.plain1 h];exact V.reflP h
theorem oD{ρ1:Map}{N N1:Nat}{y0 y1:Value}{L0 L1:Loc}(h0:ρ 0=some L0)(h1:ρ 1=some L1)(a0:V ρ N bx0 y0)(a1:V ρ N bx1 y1)(b0:V ρ1 N1 bx0 y0)(b1:V ρ1 N1 bx1 y1){τ:List Value}{ts:Array Value}(hx:τ.all qI=true)(hv:TmpR ρ N τ ts):TmpR ρ1 N1 τ ts:=
 ⟨hv.1,fun t x y hx' hy'=>tK h0 h1 a0 a1 b0 b1 (List.all_eq_true.1 hx x (List.mem_of_getElem? hx')) (hv.2 t x y hx' hy')⟩
theorem XR{ρ1:Map}{N N1:Nat}{y0 y1:Value}{L0 L1:Loc}(h0:ρ 0=some L0)(h1:ρ 1=some L1)(a0:V ρ N bx0 y0)(a1:V ρ N bx1 y1)(b0:V ρ1 N1 bx0 y0)(b1:V ρ1 N1 bx1 y1):∀{τs:List (List Value)}{cs:List (Array Value)},(τs.all fun τ=>τ.all qI)=true->TmpsR ρ N τs cs->TmpsR ρ1 N1 τs cs
 |[],[],_,_=>trivial
 |τ::τs,c::cs,hx,hv=>by
  simp only[List.all_cons,A2]at hx;exact⟨oD h0 h1 a0 a1 b0 b1 hx.1 hv.1,XR h0 h1 a0 a1 b0 b1 hx.2 hv.2⟩
 |[],_::_,_,h=>h.elim
 |_::_,[],_,h=>h.elim
open Classical in
theorem ZF{C:Cx}{w0:World}(hC:CxAt C w0){d:Nat}{g:FuncId}{args:List Value}{mem mem1:List (Option Blk)}{v:Value}(hp:Eg v=true)
  (hev:∀J:Value->St->OD,inl C d g args {τ:=[bx0,bx1],saved:=[],mem:=mem} (fun v' σ'=>J v' (Cc [0,1] σ'))=J v {τ:=[bx0,bx1],saved:=[],mem:=mem1})
  {σ:St} (hσ:σ.mem=mem) (hτ:σ.τ.all qI=true) (hs:(σ.saved.all fun τ=>τ.all qI)=true) {i0 i1:Nat} (h0:σ.τ[i0]? =some bx0) (h1:σ.τ[i1]? =some bx1) {b0 b1:Blk} (m0:mem[0]? =some (some b0)) (m1:mem[1]? =some (some b1))
  {a:Act} {cs:List (Array Value)} {w:World} {cargs:List Value} (hR:Rel w0 σ a cs w ρ) (hv:Vs ρ σ.mem.length args cargs):
  Calls C.P g ⟨cargs⟩ w fun e w'=>∃cv ρ1,e=.returned cv∧Rel w0 {σ with mem:=mem1} a cs w' ρ1∧V ρ1 mem1.length v cv:=by
 subst hσ;obtain⟨L0,hL0,-⟩:=hR.mem.blk 0 b0 m0;obtain⟨L1,hL1,-⟩:=hR.mem.blk 1 b1 m1;have z0:V ρ σ.mem.length bx0 (a.tmps.getD i0 undef):=by
  have:=hR.tmps.getD i0
  rwa [List.getD_eq_getElem?_getD,h0]at this
 have z1:V ρ σ.mem.length bx1 (a.tmps.getD i1 undef):=by
  have:=hR.tmps.getD i1
  rwa [List.getD_eq_getElem?_getD,h1]at this
 generalize a.tmps.getD i0 undef=y0 at z0;generalize a.tmps.getD i1 undef=y1 at z1;have hRe:Rel w0 {τ:=[bx0,bx1],saved:=[],mem:=σ.mem} {a with tmps:= #[y0,y1]} [] w ρ:=
  ⟨hR.defers,⟨rfl,fun t x y hx hy=>by
   match t,hx,hy with
   |0,hx,hy=>simp at hx hy;subst hx hy;exact z0
   |1,hx,hy=>simp at hx hy;subst hx hy;exact z1
   |t+2,hx,hy=>simp at hx⟩,trivial,hR.below,hR.mem⟩
 have hk:=hev fun v' σ'=>if v'=v∧σ'={τ:=[bx0,bx1],saved:=[],mem:=mem1}then some []else none;rw[AM ⟨rfl,rfl⟩]at hk;refine(WE hC d g args _ _ _ hk _ _ w ρ cargs hRe hv).mono fun e w' ⟨cv,v',σ',ρ1,he,hR1,hV1,hk1⟩=>?_;split at hk1
 ·rename_i hh;obtain⟨rfl,hn⟩:=hh;obtain⟨ρ2,hR2⟩:=MB hR1 [0,1];rw[hn]at hR2;have t0:V ρ2 mem1.length bx0 y0:=hR2.tmps.2 0 _ _ rfl rfl;have t1:V ρ2 mem1.length bx1 y1:=hR2.tmps.2 1 _ _ rfl rfl;refine⟨cv,ρ2,he,⟨hR.defers,oD hL0 hL1 z0 z1 t0 t1 hτ hR.tmps,XR hL0 hL1 z0 z1 t0 t1 hs hR.saved,hR2.below,hR2.mem⟩,?_⟩;rw[hV1.plain1 hp];exact V.reflP hp
 ·cases hk1
end Go.Ev
namespace Go.Proofs.YtnljjjghpgdmoaaGreatDoor
open Go.Ev Go.Lib Go.RowKit
def Ah(w:ByteArray)(r:Row):Row:=.mk r.n r.I r.B (fun e j=>match e with|0=>w|e+1=>r.S (e+1) j) r.R
def nG(sR:ByteArray->Row)(w:ByteArray):FD
 |[.v (.string s),.v (.string p)]=>some (decide (s.size<4294967281)&&(p.toList==sSpc.toList)&&(((sR s).S 0 0).toList==w.toList),[.slice [.str] (Ah w (sR s))])
 |_=>none
structure Px where
 k:Int
 ca:Row
 pi:Row
 pc:Int
 wo:Row
 gv:Row
 aa:Row
 fv:Row
 rr:Int
 lr:Row
 lp:Row
 lpo:Nat
 lpn:Nat
 ld:Int
 ba:Row
 pa:Row
 cl:Int
def YM(k:Int)(ca pi:Row)(pc:Int)(wo gv aa fv:Row)(rr:Int)(lr lp:Row)(lpo lpn:Nat)(ld:Int)(ba pa:Row)(cl:Int):List (Option Blk):=[some (.box [.int .u8 0,.slice none 0 0,.slice none 0 0,.int .u8 0,.slice none 0 0,.slice none 0 0,.slice none 0 0,.slice none 0 0,i64 0,.slice none 0 0,.slice none 0 0,i64 0,.slice none 0 0,.slice none 0 0,.int .u8 0]),some (.box [.int .u8 k,S_ 2 0 ca.n,S_ 3 0 pi.n,.int .u8 pc,S_ 4 0 wo.n,S_ 5 0 gv.n,S_ 6 0 aa.n,S_ 7 0 fv.n,i64 rr,S_ 8 0 lr.n,S_ 9 lpo lpn,i64 ld,S_ 10 0 ba.n,S_ 11 0 pa.n,.int .u8 cl]),some (.deep [.int .i64,.slice [.int .i64],.slice [.int .i64]] ca none),some (.deep [.slice [.int .i64,.int .i64,.int .i64,.int .i64]] pi none),some (.deep [.slice [.int .i64,.int .i64]] wo none),some (.deep [.slice [.int .i64]] gv none),some (.row [.int .i64] true aa),some (.deep [.slice [.int .i64]] fv none),some (.row [.int .i64] true lr),some (.row [.int .i64] true lp),some (.row [.int .i64] true ba),some (.row [.int .i64,.int .i64,.int .i64] true pa)]
def kU(sR:ByteArray->Row):FD
 |[.v (.string s),.v (.string p)]=>some (decide (s.size<4294967281)&&(p.toList==sSpc.toList),[.slice [.str] (sR s)])
 |_=>none
noncomputable def J8(sR:ByteArray->Row)(nC:Row->Bool)(nR:Row->Row)(nB qC:Row->Bool)(qR:Row->Row)(qB:Row->Bool)(w:ByteArray):Cx:=AU Tryz.prog fns [(70,nG sR w),(72,U6 nC nR nB),(115,UE qC qR qB)] []
def D5(k:Int)(can pin:Nat)(pc:Int)(won gvn aan fvn:Nat)(rr:Int)(lrn lpo lpn:Nat)(ld:Int)(ban pan:Nat)(cl:Int)(ca pi wo gv aa fv lr lp ba pa:Row):St:=⟨[.pointer (some ⟨0,0,some 0⟩),.pointer (some ⟨1,0,some 0⟩)],[],[some (.box [.int .u8 0,.slice none 0 0,.slice none 0 0,.int .u8 0,.slice none 0 0,.slice none 0 0,.slice none 0 0,.slice none 0 0,i64 0,.slice none 0 0,.slice none 0 0,i64 0,.slice none 0 0,.slice none 0 0,.int .u8 0]),some (.box [.int .u8 k,S_ 2 0 can,S_ 3 0 pin,.int .u8 pc,S_ 4 0 won,S_ 5 0 gvn,S_ 6 0 aan,S_ 7 0 fvn,i64 rr,S_ 8 0 lrn,S_ 9 lpo lpn,i64 ld,S_ 10 0 ban,S_ 11 0 pan,.int .u8 cl]),some (.deep [.int .i64,.slice [.int .i64],.slice [.int .i64]] ca none),some (.deep [.slice [.int .i64,.int .i64,.int .i64,.int .i64]] pi none),some (.deep [.slice [.int .i64,.int .i64]] wo none),some (.deep [.slice [.int .i64]] gv none),some (.row [.int .i64] true aa),some (.deep [.slice [.int .i64]] fv none),some (.row [.int .i64] true lr),some (.row [.int .i64] true lp),some (.row [.int .i64] true ba),some (.row [.int .i64,.int .i64,.int .i64] true pa)]⟩
def noW(o:Oper):Bool:=match o.op with|.binOp .eql _ _ (.const (.string _)) _=>true|_=>false
noncomputable def Cno(sR:ByteArray->Row)(nC:Row->Bool)(nR:Row->Row)(nB qC:Row->Bool)(qR:Row->Row)(qB:Row->Bool):Cx:={AU Tryz.prog fns [(70,kU sR),(72,U6 nC nR nB),(115,UE qC qR qB)] []with no:=noW}
theorem Ahj(sR:ByteArray->Row)(nC:Row->Bool)(nR:Row->Row)(nB qC:Row->Bool)(qR:Row->Row)(qB:Row->Bool)(K:Value->St->OD)(ln:ByteArray)(k:Int)(ca pi:Row)(pc:Int)(wo gv aa fv:Row)(rr:Int)(lr lp:Row)(lpo lpn:Nat)(ld:Int)(ba pa:Row)(cl:Int):inl (J8 sR nC nR nB qC qR qB sCake) 8 28 [bx1,.string ln] {τ:=[bx0,bx1],saved:=[],mem:=YM k ca pi pc wo gv aa fv rr lr lp lpo lpn ld ba pa cl} (fun v s=>K v (Cc [0,1] s))=br (ln.size<4294967281&&{data:={toList:=[32]:Array UInt8}:ByteArray}.toList==sSpc.toList&&((sR ln).S 0 0).toList==sCake.toList) (br ((0:Int)<=0&&0<(↑(Ah sCake (sR ln)).n:Int)) (br ((0:Int)<=0&&0<(↑(Ah sCake (sR ln)).n:Int)) (br (0<=(↑(Ah sCake (sR ln)).n:Int)&&(↑(Ah sCake (sR ln)).n:Int)<=(↑(Ah sCake (sR ln)).n:Int)) (br (0<=1&&1<=(↑(↑(Ah sCake (sR ln)).n:Int).toNat:Int)) (br (nC (w_ (Ah sCake (sR ln)) 1 ((↑(Ah sCake (sR ln)).n:Int).toNat-1))) (br (!nB (w_ (Ah sCake (sR ln)) 1 ((↑(Ah sCake (sR ln)).n:Int).toNat-1))) (K (Value.bool false) (D5 k ca.n pi.n pc wo.n gv.n aa.n fv.n rr lr.n lpo lpn ld ba.n pa.n cl ca pi wo gv aa fv lr lp ba pa)) (br ((0:Int)<=0&&0<(↑(Ah sCake (sR ln)).n:Int)) (br ((↑(nR (w_ (Ah sCake (sR ln)) (0+1) ((↑(Ah sCake (sR ln)).n:Int).toNat-1))).n:Int)>=2) (br ((↑(nR (w_ (Ah sCake (sR ln)) 1 ((↑(Ah sCake (sR ln)).n:Int).toNat-1))).n:Int).tmod 2==0) (br ((0:Int)<=0&&0<(↑(nR (w_ (Ah sCake (sR ln)) (0+1) ((↑(Ah sCake (sR ln)).n:Int).toNat-1))).n:Int)) (br (0<=IntKind.i64.wrap (IntKind.i64.wrap ((↑(nR (w_ (Ah sCake (sR ln)) (0+1) ((↑(Ah sCake (sR ln)).n:Int).toNat-1))).n:Int).tdiv 2)+1)&&IntKind.i64.wrap (IntKind.i64.wrap ((↑(nR (w_ (Ah sCake (sR ln)) (0+1) ((↑(Ah sCake (sR ln)).n:Int).toNat-1))).n:Int).tdiv 2)+1)<=(↑(nR (w_ (Ah sCake (sR ln)) (0+1) ((↑(Ah sCake (sR ln)).n:Int).toNat-1))).n:Int)) (br (0<=IntKind.i64.wrap (IntKind.i64.wrap ((↑(nR (w_ (Ah sCake (sR ln)) (0+1) ((↑(Ah sCake (sR ln)).n:Int).toNat-1))).n:Int).tdiv 2)+1)&&IntKind.i64.wrap (IntKind.i64.wrap ((↑(nR (w_ (Ah sCake (sR ln)) (0+1) ((↑(Ah sCake (sR ln)).n:Int).toNat-1))).n:Int).tdiv 2)+1)<=IntKind.i64.wrap (IntKind.i64.wrap ((↑(nR (w_ (Ah sCake (sR ln)) (0+1) ((↑(Ah sCake (sR ln)).n:Int).toNat-1))).n:Int).tdiv 2)+1)) (br (0<=1&&1<=(↑(IntKind.i64.wrap (IntKind.i64.wrap ((↑(nR (w_ (Ah sCake (sR ln)) (0+1) ((↑(Ah sCake (sR ln)).n:Int).toNat-1))).n:Int).tdiv 2)+1)).toNat:Int)) (br (0<=(↑(nR (w_ (Ah sCake (sR ln)) (0+1) ((↑(Ah sCake (sR ln)).n:Int).toNat-1))).n:Int)&&(↑(nR (w_ (Ah sCake (sR ln)) (0+1) ((↑(Ah sCake (sR ln)).n:Int).toNat-1))).n:Int)<=(↑(nR (w_ (Ah sCake (sR ln)) (0+1) ((↑(Ah sCake (sR ln)).n:Int).toNat-1))).n:Int)) (br (0<=IntKind.i64.wrap (IntKind.i64.wrap ((↑(nR (w_ (Ah sCake (sR ln)) (0+1) ((↑(Ah sCake (sR ln)).n:Int).toNat-1))).n:Int).tdiv 2)+1)&&IntKind.i64.wrap (IntKind.i64.wrap ((↑(nR (w_ (Ah sCake (sR ln)) (0+1) ((↑(Ah sCake (sR ln)).n:Int).toNat-1))).n:Int).tdiv 2)+1)<=(↑(↑(nR (w_ (Ah sCake (sR ln)) (0+1) ((↑(Ah sCake (sR ln)).n:Int).toNat-1))).n:Int).toNat:Int)) (br (ca.n+1<=10000000000) (K (Value.bool true) (D5 k (ca.n+1) pi.n pc wo.n gv.n aa.n fv.n rr lr.n lpo lpn ld ba.n pa.n cl ((w_ ca 0 ca.n).app (w_ ((((Row.zeros 1).setI 0 0 ((nR (w_ (Ah sCake (sR ln)) 1 ((↑(Ah sCake (sR ln)).n:Int).toNat-1))).I 0 0)).setR 0 1 (w_ (nR (w_ (Ah sCake (sR ln)) 1 ((↑(Ah sCake (sR ln)).n:Int).toNat-1))) 1 ((IntKind.i64.wrap (IntKind.i64.wrap ((↑(nR (w_ (Ah sCake (sR ln)) 1 ((↑(Ah sCake (sR ln)).n:Int).toNat-1))).n:Int).tdiv 2)+1)).toNat-1))).setR 0 2 (w_ (nR (w_ (Ah sCake (sR ln)) 1 ((↑(Ah sCake (sR ln)).n:Int).toNat-1))) (0+(IntKind.i64.wrap (IntKind.i64.wrap ((↑(nR (w_ (Ah sCake (sR ln)) 1 ((↑(Ah sCake (sR ln)).n:Int).toNat-1))).n:Int).tdiv 2)+1)).toNat) ((↑(nR (w_ (Ah sCake (sR ln)) 1 ((↑(Ah sCake (sR ln)).n:Int).toNat-1))).n:Int).toNat-(IntKind.i64.wrap (IntKind.i64.wrap ((↑(nR (w_ (Ah sCake (sR ln)) 1 ((↑(Ah sCake (sR ln)).n:Int).toNat-1))).n:Int).tdiv 2)+1)).toNat))) 0 1)) pi wo gv aa fv lr lp ba pa)) none) none) none) none) none) none) none) (br ((0:Int)<=0&&0<(↑(Ah sCake (sR ln)).n:Int)) (br ((0:Int)<=0&&0<(↑(Ah sCake (sR ln)).n:Int)) (br ((0:Int)<=0&&0<(↑(Ah sCake (sR ln)).n:Int)) (br ((0:Int)<=0&&0<(↑(Ah sCake (sR ln)).n:Int)) (br ((0:Int)<=0&&0<(↑(Ah sCake (sR ln)).n:Int)) (br ((0:Int)<=0&&0<(↑(Ah sCake (sR ln)).n:Int)) (br ((0:Int)<=0&&0<(↑(Ah sCake (sR ln)).n:Int)) (br ((0:Int)<=0&&0<(↑(Ah sCake (sR ln)).n:Int)) (br ((0:Int)<=0&&0<(↑(Ah sCake (sR ln)).n:Int)) (K (Value.bool false) (D5 k ca.n pi.n pc wo.n gv.n aa.n fv.n rr lr.n lpo lpn ld ba.n pa.n cl ca pi wo gv aa fv lr lp ba pa)) none) none) none) none) none) none) none) none) none)) (br ((0:Int)<=0&&0<(↑(Ah sCake (sR ln)).n:Int)) (br ((0:Int)<=0&&0<(↑(Ah sCake (sR ln)).n:Int)) (br ((0:Int)<=0&&0<(↑(Ah sCake (sR ln)).n:Int)) (br ((0:Int)<=0&&0<(↑(Ah sCake (sR ln)).n:Int)) (br ((0:Int)<=0&&0<(↑(Ah sCake (sR ln)).n:Int)) (br ((0:Int)<=0&&0<(↑(Ah sCake (sR ln)).n:Int)) (br ((0:Int)<=0&&0<(↑(Ah sCake (sR ln)).n:Int)) (br ((0:Int)<=0&&0<(↑(Ah sCake (sR ln)).n:Int)) (br ((0:Int)<=0&&0<(↑(Ah sCake (sR ln)).n:Int)) (K (Value.bool false) (D5 k ca.n pi.n pc wo.n gv.n aa.n fv.n rr lr.n lpo lpn ld ba.n pa.n cl ca pi wo gv aa fv lr lp ba pa)) none) none) none) none) none) none) none) none) none)) none)) none) none) none) none) none) (none):=by kernel_rfl
theorem rE(sR:ByteArray->Row)(nC:Row->Bool)(nR:Row->Row)(nB qC:Row->Bool)(qR:Row->Row)(qB:Row->Bool)(K:Value->St->OD)(ln:ByteArray)(k:Int)(ca pi:Row)(pc:Int)(wo gv aa fv:Row)(rr:Int)(lr lp:Row)(lpo lpn:Nat)(ld:Int)(ba pa:Row)(cl:Int):inl (J8 sR nC nR nB qC qR qB sValues) 8 28 [bx1,.string ln] {τ:=[bx0,bx1],saved:=[],mem:=YM k ca pi pc wo gv aa fv rr lr lp lpo lpn ld ba pa cl} (fun v s=>K v (Cc [0,1] s))=br (ln.size<4294967281&&{data:={toList:=[32]:Array UInt8}:ByteArray}.toList==sSpc.toList&&((sR ln).S 0 0).toList==sValues.toList) (br ((0:Int)<=0&&0<(↑(Ah sValues (sR ln)).n:Int)) (br ((0:Int)<=0&&0<(↑(Ah sValues (sR ln)).n:Int)) (br (0<=(↑(Ah sValues (sR ln)).n:Int)&&(↑(Ah sValues (sR ln)).n:Int)<=(↑(Ah sValues (sR ln)).n:Int)) (br (0<=1&&1<=(↑(↑(Ah sValues (sR ln)).n:Int).toNat:Int)) (br (nC (w_ (Ah sValues (sR ln)) 1 ((↑(Ah sValues (sR ln)).n:Int).toNat-1))) (br (!nB (w_ (Ah sValues (sR ln)) 1 ((↑(Ah sValues (sR ln)).n:Int).toNat-1))) (K (Value.bool false) (D5 k ca.n pi.n pc wo.n gv.n aa.n fv.n rr lr.n lpo lpn ld ba.n pa.n cl ca pi wo gv aa fv lr lp ba pa)) (br ((0:Int)<=0&&0<(↑(Ah sValues (sR ln)).n:Int)) (br ((0:Int)<=0&&0<(↑(Ah sValues (sR ln)).n:Int)) (br (k==2) (br (gv.n+1<=10000000000) (K (Value.bool true) (D5 k ca.n pi.n pc wo.n (gv.n+1) aa.n fv.n rr lr.n lpo lpn ld ba.n pa.n cl ca pi wo ((w_ gv 0 gv.n).app (w_ ((Row.zeros 1).setR 0 0 (w_ (nR (w_ (Ah sValues (sR ln)) 1 ((↑(Ah sValues (sR ln)).n:Int).toNat-1))) 0 (nR (w_ (Ah sValues (sR ln)) 1 ((↑(Ah sValues (sR ln)).n:Int).toNat-1))).n)) 0 1)) aa fv lr lp ba pa)) none) (br ((0:Int)<=0&&0<(↑(Ah sValues (sR ln)).n:Int)) (br (fv.n+1<=10000000000) (K (Value.bool true) (D5 k ca.n pi.n pc wo.n gv.n aa.n (fv.n+1) rr lr.n lpo lpn ld ba.n pa.n cl ca pi wo gv aa ((w_ fv 0 fv.n).app (w_ ((Row.zeros 1).setR 0 0 (w_ (nR (w_ (Ah sValues (sR ln)) 1 ((↑(Ah sValues (sR ln)).n:Int).toNat-1))) 0 (nR (w_ (Ah sValues (sR ln)) 1 ((↑(Ah sValues (sR ln)).n:Int).toNat-1))).n)) 0 1)) lr lp ba pa)) none) none)) none) none)) none) none) none) none) none) (none):=by kernel_rfl
theorem Aja(sR:ByteArray->Row)(nC:Row->Bool)(nR:Row->Row)(nB qC:Row->Bool)(qR:Row->Row)(qB:Row->Bool)(K:Value->St->OD)(ln:ByteArray)(k:Int)(ca pi:Row)(pc:Int)(wo gv aa fv:Row)(rr:Int)(lr lp:Row)(lpo lpn:Nat)(ld:Int)(ba pa:Row)(cl:Int):inl (J8 sR nC nR nB qC qR qB sGive) 8 28 [bx1,.string ln] {τ:=[bx0,bx1],saved:=[],mem:=YM k ca pi pc wo gv aa fv rr lr lp lpo lpn ld ba pa cl} (fun v s=>K v (Cc [0,1] s))=br (ln.size<4294967281&&{data:={toList:=[32]:Array UInt8}:ByteArray}.toList==sSpc.toList&&((sR ln).S 0 0).toList==sGive.toList) (br ((0:Int)<=0&&0<(↑(Ah sGive (sR ln)).n:Int)) (br ((0:Int)<=0&&0<(↑(Ah sGive (sR ln)).n:Int)) (br (0<=(↑(Ah sGive (sR ln)).n:Int)&&(↑(Ah sGive (sR ln)).n:Int)<=(↑(Ah sGive (sR ln)).n:Int)) (br (0<=1&&1<=(↑(↑(Ah sGive (sR ln)).n:Int).toNat:Int)) (br (nC (w_ (Ah sGive (sR ln)) 1 ((↑(Ah sGive (sR ln)).n:Int).toNat-1))) (br (!nB (w_ (Ah sGive (sR ln)) 1 ((↑(Ah sGive (sR ln)).n:Int).toNat-1))) (K (Value.bool false) (D5 k ca.n pi.n pc wo.n gv.n aa.n fv.n rr lr.n lpo lpn ld ba.n pa.n cl ca pi wo gv aa fv lr lp ba pa)) (br ((0:Int)<=0&&0<(↑(Ah sGive (sR ln)).n:Int)) (br ((0:Int)<=0&&0<(↑(Ah sGive (sR ln)).n:Int)) (br ((0:Int)<=0&&0<(↑(Ah sGive (sR ln)).n:Int)) (br ((0:Int)<=0&&0<(↑(Ah sGive (sR ln)).n:Int)) (K (Value.bool true) (D5 k ca.n pi.n pc wo.n gv.n ((nR (w_ (Ah sGive (sR ln)) 1 ((↑(Ah sGive (sR ln)).n:Int).toNat-1))).n) fv.n rr lr.n lpo lpn ld ba.n pa.n cl ca pi wo gv (nR (w_ (Ah sGive (sR ln)) 1 ((↑(Ah sGive (sR ln)).n:Int).toNat-1))) fv lr lp ba pa)) none) none) none) none)) none) none) none) none) none) (none):=by kernel_rfl
theorem Ajt(sR:ByteArray->Row)(nC:Row->Bool)(nR:Row->Row)(nB qC:Row->Bool)(qR:Row->Row)(qB:Row->Bool)(K:Value->St->OD)(ln:ByteArray)(k:Int)(ca pi:Row)(pc:Int)(wo gv aa fv:Row)(rr:Int)(lr lp:Row)(lpo lpn:Nat)(ld:Int)(ba pa:Row)(cl:Int):inl (J8 sR nC nR nB qC qR qB sRent) 8 28 [bx1,.string ln] {τ:=[bx0,bx1],saved:=[],mem:=YM k ca pi pc wo gv aa fv rr lr lp lpo lpn ld ba pa cl} (fun v s=>K v (Cc [0,1] s))=br (ln.size<4294967281&&{data:={toList:=[32]:Array UInt8}:ByteArray}.toList==sSpc.toList&&((sR ln).S 0 0).toList==sRent.toList) (br ((0:Int)<=0&&0<(↑(Ah sRent (sR ln)).n:Int)) (br ((0:Int)<=0&&0<(↑(Ah sRent (sR ln)).n:Int)) (br (0<=(↑(Ah sRent (sR ln)).n:Int)&&(↑(Ah sRent (sR ln)).n:Int)<=(↑(Ah sRent (sR ln)).n:Int)) (br (0<=1&&1<=(↑(↑(Ah sRent (sR ln)).n:Int).toNat:Int)) (br (nC (w_ (Ah sRent (sR ln)) 1 ((↑(Ah sRent (sR ln)).n:Int).toNat-1))) (br (!nB (w_ (Ah sRent (sR ln)) 1 ((↑(Ah sRent (sR ln)).n:Int).toNat-1))) (K (Value.bool false) (D5 k ca.n pi.n pc wo.n gv.n aa.n fv.n rr lr.n lpo lpn ld ba.n pa.n cl ca pi wo gv aa fv lr lp ba pa)) (br ((0:Int)<=0&&0<(↑(Ah sRent (sR ln)).n:Int)) (br ((0:Int)<=0&&0<(↑(Ah sRent (sR ln)).n:Int)) (br ((0:Int)<=0&&0<(↑(Ah sRent (sR ln)).n:Int)) (br ((0:Int)<=0&&0<(↑(Ah sRent (sR ln)).n:Int)) (br ((0:Int)<=0&&0<(↑(Ah sRent (sR ln)).n:Int)) (br ((↑(nR (w_ (Ah sRent (sR ln)) 1 ((↑(Ah sRent (sR ln)).n:Int).toNat-1))).n:Int)==1) (br ((0:Int)<=0&&0<(↑(nR (w_ (Ah sRent (sR ln)) (0+1) ((↑(Ah sRent (sR ln)).n:Int).toNat-1))).n:Int)) (K (Value.bool true) (D5 k ca.n pi.n pc wo.n gv.n aa.n fv.n ((nR (w_ (Ah sRent (sR ln)) 1 ((↑(Ah sRent (sR ln)).n:Int).toNat-1))).I 0 0) lr.n lpo lpn ld ba.n pa.n cl ca pi wo gv aa fv lr lp ba pa)) none) (br ((0:Int)<=0&&0<(↑(Ah sRent (sR ln)).n:Int)) (br ((0:Int)<=0&&0<(↑(Ah sRent (sR ln)).n:Int)) (br ((0:Int)<=0&&0<(↑(Ah sRent (sR ln)).n:Int)) (br ((0:Int)<=0&&0<(↑(Ah sRent (sR ln)).n:Int)) (br ((0:Int)<=0&&0<(↑(Ah sRent (sR ln)).n:Int)) (K (Value.bool false) (D5 k ca.n pi.n pc wo.n gv.n aa.n fv.n rr lr.n lpo lpn ld ba.n pa.n cl ca pi wo gv aa fv lr lp ba pa)) none) none) none) none) none)) none) none) none) none) none)) none) none) none) none) none) (none):=by kernel_rfl
theorem Ac4(sR:ByteArray->Row)(nC:Row->Bool)(nR:Row->Row)(nB qC:Row->Bool)(qR:Row->Row)(qB:Row->Bool)(K:Value->St->OD)(ln:ByteArray)(k:Int)(ca pi:Row)(pc:Int)(wo gv aa fv:Row)(rr:Int)(lr lp:Row)(lpo lpn:Nat)(ld:Int)(ba pa:Row)(cl:Int):inl (J8 sR nC nR nB qC qR qB sRooms) 8 28 [bx1,.string ln] {τ:=[bx0,bx1],saved:=[],mem:=YM k ca pi pc wo gv aa fv rr lr lp lpo lpn ld ba pa cl} (fun v s=>K v (Cc [0,1] s))=br (ln.size<4294967281&&{data:={toList:=[32]:Array UInt8}:ByteArray}.toList==sSpc.toList&&((sR ln).S 0 0).toList==sRooms.toList) (br ((0:Int)<=0&&0<(↑(Ah sRooms (sR ln)).n:Int)) (br ((0:Int)<=0&&0<(↑(Ah sRooms (sR ln)).n:Int)) (br (0<=(↑(Ah sRooms (sR ln)).n:Int)&&(↑(Ah sRooms (sR ln)).n:Int)<=(↑(Ah sRooms (sR ln)).n:Int)) (br (0<=1&&1<=(↑(↑(Ah sRooms (sR ln)).n:Int).toNat:Int)) (br (nC (w_ (Ah sRooms (sR ln)) 1 ((↑(Ah sRooms (sR ln)).n:Int).toNat-1))) (br (!nB (w_ (Ah sRooms (sR ln)) 1 ((↑(Ah sRooms (sR ln)).n:Int).toNat-1))) (K (Value.bool false) (D5 k ca.n pi.n pc wo.n gv.n aa.n fv.n rr lr.n lpo lpn ld ba.n pa.n cl ca pi wo gv aa fv lr lp ba pa)) (br ((0:Int)<=0&&0<(↑(Ah sRooms (sR ln)).n:Int)) (br ((0:Int)<=0&&0<(↑(Ah sRooms (sR ln)).n:Int)) (br ((0:Int)<=0&&0<(↑(Ah sRooms (sR ln)).n:Int)) (br ((0:Int)<=0&&0<(↑(Ah sRooms (sR ln)).n:Int)) (br ((0:Int)<=0&&0<(↑(Ah sRooms (sR ln)).n:Int)) (br ((0:Int)<=0&&0<(↑(Ah sRooms (sR ln)).n:Int)) (K (Value.bool true) (D5 k ca.n pi.n pc wo.n gv.n aa.n fv.n rr ((nR (w_ (Ah sRooms (sR ln)) 1 ((↑(Ah sRooms (sR ln)).n:Int).toNat-1))).n) lpo lpn ld ba.n pa.n cl ca pi wo gv aa fv (nR (w_ (Ah sRooms (sR ln)) 1 ((↑(Ah sRooms (sR ln)).n:Int).toNat-1))) lp ba pa)) none) none) none) none) none) none)) none) none) none) none) none) (none):=by kernel_rfl
theorem wG(sR:ByteArray->Row)(nC:Row->Bool)(nR:Row->Row)(nB qC:Row->Bool)(qR:Row->Row)(qB:Row->Bool)(K:Value->St->OD)(ln:ByteArray)(k:Int)(ca pi:Row)(pc:Int)(wo gv aa fv:Row)(rr:Int)(lr lp:Row)(lpo lpn:Nat)(ld:Int)(ba pa:Row)(cl:Int):inl (J8 sR nC nR nB qC qR qB sPrices) 8 28 [bx1,.string ln] {τ:=[bx0,bx1],saved:=[],mem:=YM k ca pi pc wo gv aa fv rr lr lp lpo lpn ld ba pa cl} (fun v s=>K v (Cc [0,1] s))=br (ln.size<4294967281&&{data:={toList:=[32]:Array UInt8}:ByteArray}.toList==sSpc.toList&&((sR ln).S 0 0).toList==sPrices.toList) (br ((0:Int)<=0&&0<(↑(Ah sPrices (sR ln)).n:Int)) (br ((0:Int)<=0&&0<(↑(Ah sPrices (sR ln)).n:Int)) (br (0<=(↑(Ah sPrices (sR ln)).n:Int)&&(↑(Ah sPrices (sR ln)).n:Int)<=(↑(Ah sPrices (sR ln)).n:Int)) (br (0<=1&&1<=(↑(↑(Ah sPrices (sR ln)).n:Int).toNat:Int)) (br (nC (w_ (Ah sPrices (sR ln)) 1 ((↑(Ah sPrices (sR ln)).n:Int).toNat-1))) (br (!nB (w_ (Ah sPrices (sR ln)) 1 ((↑(Ah sPrices (sR ln)).n:Int).toNat-1))) (K (Value.bool false) (D5 k ca.n pi.n pc wo.n gv.n aa.n fv.n rr lr.n lpo lpn ld ba.n pa.n cl ca pi wo gv aa fv lr lp ba pa)) (br ((0:Int)<=0&&0<(↑(Ah sPrices (sR ln)).n:Int)) (br ((0:Int)<=0&&0<(↑(Ah sPrices (sR ln)).n:Int)) (br ((0:Int)<=0&&0<(↑(Ah sPrices (sR ln)).n:Int)) (br ((0:Int)<=0&&0<(↑(Ah sPrices (sR ln)).n:Int)) (br ((0:Int)<=0&&0<(↑(Ah sPrices (sR ln)).n:Int)) (br ((0:Int)<=0&&0<(↑(Ah sPrices (sR ln)).n:Int)) (br ((0:Int)<=0&&0<(↑(Ah sPrices (sR ln)).n:Int)) (br ((↑(nR (w_ (Ah sPrices (sR ln)) (0+1) ((↑(Ah sPrices (sR ln)).n:Int).toNat-1))).n:Int)>0) (br ((0:Int)<=0&&0<(↑(nR (w_ (Ah sPrices (sR ln)) (0+1) ((↑(Ah sPrices (sR ln)).n:Int).toNat-1))).n:Int)) (br (0<=(↑(nR (w_ (Ah sPrices (sR ln)) (0+1) ((↑(Ah sPrices (sR ln)).n:Int).toNat-1))).n:Int)&&(↑(nR (w_ (Ah sPrices (sR ln)) (0+1) ((↑(Ah sPrices (sR ln)).n:Int).toNat-1))).n:Int)<=(↑(nR (w_ (Ah sPrices (sR ln)) (0+1) ((↑(Ah sPrices (sR ln)).n:Int).toNat-1))).n:Int)) (br (0<=1&&1<=(↑(↑(nR (w_ (Ah sPrices (sR ln)) (0+1) ((↑(Ah sPrices (sR ln)).n:Int).toNat-1))).n:Int).toNat:Int)) (K (Value.bool true) (D5 k ca.n pi.n pc wo.n gv.n aa.n fv.n rr lr.n 1 ((↑(nR (w_ (Ah sPrices (sR ln)) 1 ((↑(Ah sPrices (sR ln)).n:Int).toNat-1))).n:Int).toNat-1) ((nR (w_ (Ah sPrices (sR ln)) 1 ((↑(Ah sPrices (sR ln)).n:Int).toNat-1))).I 0 0) ba.n pa.n cl ca pi wo gv aa fv lr (nR (w_ (Ah sPrices (sR ln)) 1 ((↑(Ah sPrices (sR ln)).n:Int).toNat-1))) ba pa)) none) none) none) (br ((0:Int)<=0&&0<(↑(Ah sPrices (sR ln)).n:Int)) (br ((0:Int)<=0&&0<(↑(Ah sPrices (sR ln)).n:Int)) (br ((0:Int)<=0&&0<(↑(Ah sPrices (sR ln)).n:Int)) (K (Value.bool false) (D5 k ca.n pi.n pc wo.n gv.n aa.n fv.n rr lr.n lpo lpn ld ba.n pa.n cl ca pi wo gv aa fv lr lp ba pa)) none) none) none)) none) none) none) none) none) none) none)) none) none) none) none) none) (none):=by kernel_rfl
theorem Yi(sR:ByteArray->Row)(nC:Row->Bool)(nR:Row->Row)(nB qC:Row->Bool)(qR:Row->Row)(qB:Row->Bool)(K:Value->St->OD)(ln:ByteArray)(k:Int)(ca pi:Row)(pc:Int)(wo gv aa fv:Row)(rr:Int)(lr lp:Row)(lpo lpn:Nat)(ld:Int)(ba pa:Row)(cl:Int):inl (J8 sR nC nR nB qC qR qB sBalances) 8 28 [bx1,.string ln] {τ:=[bx0,bx1],saved:=[],mem:=YM k ca pi pc wo gv aa fv rr lr lp lpo lpn ld ba pa cl} (fun v s=>K v (Cc [0,1] s))=br (ln.size<4294967281&&{data:={toList:=[32]:Array UInt8}:ByteArray}.toList==sSpc.toList&&((sR ln).S 0 0).toList==sBalances.toList) (br ((0:Int)<=0&&0<(↑(Ah sBalances (sR ln)).n:Int)) (br ((0:Int)<=0&&0<(↑(Ah sBalances (sR ln)).n:Int)) (br (0<=(↑(Ah sBalances (sR ln)).n:Int)&&(↑(Ah sBalances (sR ln)).n:Int)<=(↑(Ah sBalances (sR ln)).n:Int)) (br (0<=1&&1<=(↑(↑(Ah sBalances (sR ln)).n:Int).toNat:Int)) (br (nC (w_ (Ah sBalances (sR ln)) 1 ((↑(Ah sBalances (sR ln)).n:Int).toNat-1))) (br (!nB (w_ (Ah sBalances (sR ln)) 1 ((↑(Ah sBalances (sR ln)).n:Int).toNat-1))) (K (Value.bool false) (D5 k ca.n pi.n pc wo.n gv.n aa.n fv.n rr lr.n lpo lpn ld ba.n pa.n cl ca pi wo gv aa fv lr lp ba pa)) (br ((0:Int)<=0&&0<(↑(Ah sBalances (sR ln)).n:Int)) (br ((0:Int)<=0&&0<(↑(Ah sBalances (sR ln)).n:Int)) (br ((0:Int)<=0&&0<(↑(Ah sBalances (sR ln)).n:Int)) (br ((0:Int)<=0&&0<(↑(Ah sBalances (sR ln)).n:Int)) (br ((0:Int)<=0&&0<(↑(Ah sBalances (sR ln)).n:Int)) (br ((0:Int)<=0&&0<(↑(Ah sBalances (sR ln)).n:Int)) (br ((0:Int)<=0&&0<(↑(Ah sBalances (sR ln)).n:Int)) (br ((0:Int)<=0&&0<(↑(Ah sBalances (sR ln)).n:Int)) (K (Value.bool true) (D5 k ca.n pi.n pc wo.n gv.n aa.n fv.n rr lr.n lpo lpn ld ((nR (w_ (Ah sBalances (sR ln)) 1 ((↑(Ah sBalances (sR ln)).n:Int).toNat-1))).n) pa.n cl ca pi wo gv aa fv lr lp (nR (w_ (Ah sBalances (sR ln)) 1 ((↑(Ah sBalances (sR ln)).n:Int).toNat-1))) pa)) none) none) none) none) none) none) none) none)) none) none) none) none) none) (none):=by kernel_rfl
theorem Akv(sR:ByteArray->Row)(nC:Row->Bool)(nR:Row->Row)(nB qC:Row->Bool)(qR:Row->Row)(qB:Row->Bool)(K:Value->St->OD)(ln:ByteArray)(k:Int)(ca pi:Row)(pc:Int)(wo gv aa fv:Row)(rr:Int)(lr lp:Row)(lpo lpn:Nat)(ld:Int)(ba pa:Row)(cl:Int):inl (J8 sR nC nR nB qC qR qB sPay) 8 28 [bx1,.string ln] {τ:=[bx0,bx1],saved:=[],mem:=YM k ca pi pc wo gv aa fv rr lr lp lpo lpn ld ba pa cl} (fun v s=>K v (Cc [0,1] s))=br (ln.size<4294967281&&{data:={toList:=[32]:Array UInt8}:ByteArray}.toList==sSpc.toList&&((sR ln).S 0 0).toList==sPay.toList) (br ((0:Int)<=0&&0<(↑(Ah sPay (sR ln)).n:Int)) (br ((0:Int)<=0&&0<(↑(Ah sPay (sR ln)).n:Int)) (br (0<=(↑(Ah sPay (sR ln)).n:Int)&&(↑(Ah sPay (sR ln)).n:Int)<=(↑(Ah sPay (sR ln)).n:Int)) (br (0<=1&&1<=(↑(↑(Ah sPay (sR ln)).n:Int).toNat:Int)) (br (nC (w_ (Ah sPay (sR ln)) 1 ((↑(Ah sPay (sR ln)).n:Int).toNat-1))) (br (!nB (w_ (Ah sPay (sR ln)) 1 ((↑(Ah sPay (sR ln)).n:Int).toNat-1))) (K (Value.bool false) (D5 k ca.n pi.n pc wo.n gv.n aa.n fv.n rr lr.n lpo lpn ld ba.n pa.n cl ca pi wo gv aa fv lr lp ba pa)) (br ((0:Int)<=0&&0<(↑(Ah sPay (sR ln)).n:Int)) (br ((0:Int)<=0&&0<(↑(Ah sPay (sR ln)).n:Int)) (br ((0:Int)<=0&&0<(↑(Ah sPay (sR ln)).n:Int)) (br ((0:Int)<=0&&0<(↑(Ah sPay (sR ln)).n:Int)) (br ((0:Int)<=0&&0<(↑(Ah sPay (sR ln)).n:Int)) (br ((0:Int)<=0&&0<(↑(Ah sPay (sR ln)).n:Int)) (br ((0:Int)<=0&&0<(↑(Ah sPay (sR ln)).n:Int)) (br ((0:Int)<=0&&0<(↑(Ah sPay (sR ln)).n:Int)) (br ((0:Int)<=0&&0<(↑(Ah sPay (sR ln)).n:Int)) (br ((↑(nR (w_ (Ah sPay (sR ln)) 1 ((↑(Ah sPay (sR ln)).n:Int).toNat-1))).n:Int)==3) (br ((0:Int)<=0&&0<(↑(nR (w_ (Ah sPay (sR ln)) (0+1) ((↑(Ah sPay (sR ln)).n:Int).toNat-1))).n:Int)) (br (0<=1&&1<(↑(nR (w_ (Ah sPay (sR ln)) (0+1) ((↑(Ah sPay (sR ln)).n:Int).toNat-1))).n:Int)) (br (0<=2&&2<(↑(nR (w_ (Ah sPay (sR ln)) (0+1) ((↑(Ah sPay (sR ln)).n:Int).toNat-1))).n:Int)) (br (pa.n+(w_ ((((Row.zeros 1).setI 0 0 ((nR (w_ (Ah sPay (sR ln)) (0+1) ((↑(Ah sPay (sR ln)).n:Int).toNat-1))).I (0+0) 0)).setI 0 1 ((nR (w_ (Ah sPay (sR ln)) (0+1) ((↑(Ah sPay (sR ln)).n:Int).toNat-1))).I (0+1) 0)).setI 0 2 ((nR (w_ (Ah sPay (sR ln)) (0+1) ((↑(Ah sPay (sR ln)).n:Int).toNat-1))).I (0+2) 0)) 0 1).n<=10000000000) (K (Value.bool true) (D5 k ca.n pi.n pc wo.n gv.n aa.n fv.n rr lr.n lpo lpn ld ba.n (pa.n+1) cl ca pi wo gv aa fv lr lp ba ((w_ pa 0 pa.n).app (w_ ((((Row.zeros 1).setI 0 0 ((nR (w_ (Ah sPay (sR ln)) 1 ((↑(Ah sPay (sR ln)).n:Int).toNat-1))).I 0 0)).setI 0 1 ((nR (w_ (Ah sPay (sR ln)) 1 ((↑(Ah sPay (sR ln)).n:Int).toNat-1))).I 1 0)).setI 0 2 ((nR (w_ (Ah sPay (sR ln)) 1 ((↑(Ah sPay (sR ln)).n:Int).toNat-1))).I 2 0)) 0 1)))) none) none) none) none) (br ((0:Int)<=0&&0<(↑(Ah sPay (sR ln)).n:Int)) (K (Value.bool false) (D5 k ca.n pi.n pc wo.n gv.n aa.n fv.n rr lr.n lpo lpn ld ba.n pa.n cl ca pi wo gv aa fv lr lp ba pa)) none)) none) none) none) none) none) none) none) none) none)) none) none) none) none) none) (none):=by kernel_rfl
theorem rQ(sR:ByteArray->Row)(nC:Row->Bool)(nR:Row->Row)(nB qC:Row->Bool)(qR:Row->Row)(qB:Row->Bool)(K:Value->St->OD)(ln:ByteArray)(k:Int)(ca pi:Row)(pc:Int)(wo gv aa fv:Row)(rr:Int)(lr lp:Row)(lpo lpn:Nat)(ld:Int)(ba pa:Row)(cl:Int):inl (J8 sR nC nR nB qC qR qB sClaims) 8 28 [bx1,.string ln] {τ:=[bx0,bx1],saved:=[],mem:=YM k ca pi pc wo gv aa fv rr lr lp lpo lpn ld ba pa cl} (fun v s=>K v (Cc [0,1] s))=br (ln.size<4294967281&&{data:={toList:=[32]:Array UInt8}:ByteArray}.toList==sSpc.toList&&((sR ln).S 0 0).toList==sClaims.toList) (br ((0:Int)<=0&&0<(↑(Ah sClaims (sR ln)).n:Int)) (br ((0:Int)<=0&&0<(↑(Ah sClaims (sR ln)).n:Int)) (br (0<=(↑(Ah sClaims (sR ln)).n:Int)&&(↑(Ah sClaims (sR ln)).n:Int)<=(↑(Ah sClaims (sR ln)).n:Int)) (br (0<=1&&1<=(↑(↑(Ah sClaims (sR ln)).n:Int).toNat:Int)) (br (nC (w_ (Ah sClaims (sR ln)) 1 ((↑(Ah sClaims (sR ln)).n:Int).toNat-1))) (br (!nB (w_ (Ah sClaims (sR ln)) 1 ((↑(Ah sClaims (sR ln)).n:Int).toNat-1))) (K (Value.bool false) (D5 k ca.n pi.n pc wo.n gv.n aa.n fv.n rr lr.n lpo lpn ld ba.n pa.n cl ca pi wo gv aa fv lr lp ba pa)) (br ((0:Int)<=0&&0<(↑(Ah sClaims (sR ln)).n:Int)) (br ((0:Int)<=0&&0<(↑(Ah sClaims (sR ln)).n:Int)) (br ((0:Int)<=0&&0<(↑(Ah sClaims (sR ln)).n:Int)) (br ((0:Int)<=0&&0<(↑(Ah sClaims (sR ln)).n:Int)) (br ((0:Int)<=0&&0<(↑(Ah sClaims (sR ln)).n:Int)) (br ((0:Int)<=0&&0<(↑(Ah sClaims (sR ln)).n:Int)) (br ((0:Int)<=0&&0<(↑(Ah sClaims (sR ln)).n:Int)) (br ((0:Int)<=0&&0<(↑(Ah sClaims (sR ln)).n:Int)) (br ((0:Int)<=0&&0<(↑(Ah sClaims (sR ln)).n:Int)) (br ((0:Int)<=0&&0<(↑(Ah sClaims (sR ln)).n:Int)) (br ((↑(nR (w_ (Ah sClaims (sR ln)) 1 ((↑(Ah sClaims (sR ln)).n:Int).toNat-1))).n:Int)==1) (br ((0:Int)<=0&&0<(↑(nR (w_ (Ah sClaims (sR ln)) (0+1) ((↑(Ah sClaims (sR ln)).n:Int).toNat-1))).n:Int)) (br ((nR (w_ (Ah sClaims (sR ln)) (0+1) ((↑(Ah sClaims (sR ln)).n:Int).toNat-1))).I (0+0) 0>=0) (br ((0:Int)<=0&&0<(↑(nR (w_ (Ah sClaims (sR ln)) (0+1) ((↑(Ah sClaims (sR ln)).n:Int).toNat-1))).n:Int)) (br ((nR (w_ (Ah sClaims (sR ln)) (0+1) ((↑(Ah sClaims (sR ln)).n:Int).toNat-1))).I (0+0) 0<=31) (br (k==1) (br ((0:Int)<=0&&0<(↑(nR (w_ (Ah sClaims (sR ln)) (0+1) ((↑(Ah sClaims (sR ln)).n:Int).toNat-1))).n:Int)) (K (Value.bool true) (D5 k ca.n pi.n (IntKind.u8.wrap ((nR (w_ (Ah sClaims (sR ln)) 1 ((↑(Ah sClaims (sR ln)).n:Int).toNat-1))).I 0 0)) wo.n gv.n aa.n fv.n rr lr.n lpo lpn ld ba.n pa.n cl ca pi wo gv aa fv lr lp ba pa)) none) (br ((0:Int)<=0&&0<(↑(nR (w_ (Ah sClaims (sR ln)) (0+1) ((↑(Ah sClaims (sR ln)).n:Int).toNat-1))).n:Int)) (K (Value.bool true) (D5 k ca.n pi.n pc wo.n gv.n aa.n fv.n rr lr.n lpo lpn ld ba.n pa.n (IntKind.u8.wrap ((nR (w_ (Ah sClaims (sR ln)) 1 ((↑(Ah sClaims (sR ln)).n:Int).toNat-1))).I 0 0)) ca pi wo gv aa fv lr lp ba pa)) none)) (K (Value.bool false) (D5 k ca.n pi.n pc wo.n gv.n aa.n fv.n rr lr.n lpo lpn ld ba.n pa.n cl ca pi wo gv aa fv lr lp ba pa))) none) (K (Value.bool false) (D5 k ca.n pi.n pc wo.n gv.n aa.n fv.n rr lr.n lpo lpn ld ba.n pa.n cl ca pi wo gv aa fv lr lp ba pa))) none) (K (Value.bool false) (D5 k ca.n pi.n pc wo.n gv.n aa.n fv.n rr lr.n lpo lpn ld ba.n pa.n cl ca pi wo gv aa fv lr lp ba pa))) none) none) none) none) none) none) none) none) none) none)) none) none) none) none) none) (none):=by kernel_rfl
theorem Agl(sR:ByteArray->Row)(nC:Row->Bool)(nR:Row->Row)(nB qC:Row->Bool)(qR:Row->Row)(qB:Row->Bool)(K:Value->St->OD)(ln:ByteArray)(k:Int)(ca pi:Row)(pc:Int)(wo gv aa fv:Row)(rr:Int)(lr lp:Row)(lpo lpn:Nat)(ld:Int)(ba pa:Row)(cl:Int):inl (J8 sR nC nR nB qC qR qB sWorth) 8 28 [bx1,.string ln] {τ:=[bx0,bx1],saved:=[],mem:=YM k ca pi pc wo gv aa fv rr lr lp lpo lpn ld ba pa cl} (fun v s=>K v (Cc [0,1] s))=br (ln.size<4294967281&&{data:={toList:=[32]:Array UInt8}:ByteArray}.toList==sSpc.toList&&((sR ln).S 0 0).toList==sWorth.toList) (br ((0:Int)<=0&&0<(↑(Ah sWorth (sR ln)).n:Int)) (br ((0:Int)<=0&&0<(↑(Ah sWorth (sR ln)).n:Int)) (br ((0:Int)<=0&&0<(↑(Ah sWorth (sR ln)).n:Int)) (br (0<=(↑(Ah sWorth (sR ln)).n:Int)&&(↑(Ah sWorth (sR ln)).n:Int)<=(↑(Ah sWorth (sR ln)).n:Int)) (br (0<=1&&1<=(↑(↑(Ah sWorth (sR ln)).n:Int).toNat:Int)) (br (qC (w_ (Ah sWorth (sR ln)) 1 ((↑(Ah sWorth (sR ln)).n:Int).toNat-1))) (br (!qB (w_ (Ah sWorth (sR ln)) 1 ((↑(Ah sWorth (sR ln)).n:Int).toNat-1))) (K (Value.bool false) (D5 k ca.n pi.n pc wo.n gv.n aa.n fv.n rr lr.n lpo lpn ld ba.n pa.n cl ca pi wo gv aa fv lr lp ba pa)) (br (wo.n+1<=10000000000) (K (Value.bool true) (D5 k ca.n pi.n pc (wo.n+1) gv.n aa.n fv.n rr lr.n lpo lpn ld ba.n pa.n cl ca pi ((w_ wo 0 wo.n).app (w_ ((Row.zeros 1).setR 0 0 (w_ (qR (w_ (Ah sWorth (sR ln)) 1 ((↑(Ah sWorth (sR ln)).n:Int).toNat-1))) 0 (qR (w_ (Ah sWorth (sR ln)) 1 ((↑(Ah sWorth (sR ln)).n:Int).toNat-1))).n)) 0 1)) gv aa fv lr lp ba pa)) none)) none) none) none) none) none) none) (none):=by kernel_rfl
theorem Aj0(sR:ByteArray->Row)(nC:Row->Bool)(nR:Row->Row)(nB qC:Row->Bool)(qR:Row->Row)(qB:Row->Bool)(K:Value->St->OD)(ln:ByteArray)(k:Int)(ca pi:Row)(pc:Int)(wo gv aa fv:Row)(rr:Int)(lr lp:Row)(lpo lpn:Nat)(ld:Int)(ba pa:Row)(cl:Int):inl (Cno sR nC nR nB qC qR qB) 8 28 [bx1,.string ln] {τ:=[bx0,bx1],saved:=[],mem:=YM k ca pi pc wo gv aa fv rr lr lp lpo lpn ld ba pa cl} (fun v s=>K v (Cc [0,1] s))=br (ln.size<4294967281&&{data:={toList:=[32]:Array UInt8}:ByteArray}.toList==sSpc.toList) (br ((0:Int)<=0&&0<(↑(sR ln).n:Int)) (br (((sR ln).S 0 0).toList=={data:={toList:=[112,105,101,99,101]:Array UInt8}:ByteArray}.toList) none (br ((0:Int)<=0&&0<(↑(sR ln).n:Int)) (br (((sR ln).S 0 0).toList=={data:={toList:=[119,111,114,116,104]:Array UInt8}:ByteArray}.toList) none (br (0<=(↑(sR ln).n:Int)&&(↑(sR ln).n:Int)<=(↑(sR ln).n:Int)) (br (0<=1&&1<=(↑(↑(sR ln).n:Int).toNat:Int)) (br (nC (w_ (sR ln) 1 ((↑(sR ln).n:Int).toNat-1))) (br (!nB (w_ (sR ln) 1 ((↑(sR ln).n:Int).toNat-1))) (K (Value.bool false) (D5 k ca.n pi.n pc wo.n gv.n aa.n fv.n rr lr.n lpo lpn ld ba.n pa.n cl ca pi wo gv aa fv lr lp ba pa)) (br ((0:Int)<=0&&0<(↑(sR ln).n:Int)) (br (((sR ln).S 0 0).toList=={data:={toList:=[99,97,107,101]:Array UInt8}:ByteArray}.toList) none (br ((0:Int)<=0&&0<(↑(sR ln).n:Int)) (br (((sR ln).S 0 0).toList=={data:={toList:=[118,97,108,117,101,115]:Array UInt8}:ByteArray}.toList) none (br ((0:Int)<=0&&0<(↑(sR ln).n:Int)) (br (((sR ln).S 0 0).toList=={data:={toList:=[118,97,108,117,101,115]:Array UInt8}:ByteArray}.toList) none (br ((0:Int)<=0&&0<(↑(sR ln).n:Int)) (br (((sR ln).S 0 0).toList=={data:={toList:=[103,105,118,101]:Array UInt8}:ByteArray}.toList) none (br ((0:Int)<=0&&0<(↑(sR ln).n:Int)) (br (((sR ln).S 0 0).toList=={data:={toList:=[114,101,110,116]:Array UInt8}:ByteArray}.toList) none (br ((0:Int)<=0&&0<(↑(sR ln).n:Int)) (br (((sR ln).S 0 0).toList=={data:={toList:=[114,111,111,109,115]:Array UInt8}:ByteArray}.toList) none (br ((0:Int)<=0&&0<(↑(sR ln).n:Int)) (br (((sR ln).S 0 0).toList=={data:={toList:=[112,114,105,99,101,115]:Array UInt8}:ByteArray}.toList) none (br ((0:Int)<=0&&0<(↑(sR ln).n:Int)) (br (((sR ln).S 0 0).toList=={data:={toList:=[98,97,108,97,110,99,101,115]:Array UInt8}:ByteArray}.toList) none (br ((0:Int)<=0&&0<(↑(sR ln).n:Int)) (br (((sR ln).S 0 0).toList=={data:={toList:=[112,97,121]:Array UInt8}:ByteArray}.toList) none (br ((0:Int)<=0&&0<(↑(sR ln).n:Int)) (br (((sR ln).S 0 0).toList=={data:={toList:=[99,108,97,105,109,115]:Array UInt8}:ByteArray}.toList) none (K (Value.bool false) (D5 k ca.n pi.n pc wo.n gv.n aa.n fv.n rr lr.n lpo lpn ld ba.n pa.n cl ca pi wo gv aa fv lr lp ba pa))) none)) none)) none)) none)) none)) none)) none)) none)) none)) none)) none) none) none)) none)) none) (none):=by kernel_rfl
set_option maxRecDepth 100000
def UW(r:Row)(a b c d:Int):Row:=(w_ r 0 r.n).app (w_ (((((Row.zeros 1).setI 0 0 a).setI 0 1 b).setI 0 2 c).setI 0 3 d) 0 1)
def XZ:Ed:={τ:=[.v (.c (.pointer (some ⟨0,0,some 0⟩)))]++pu 6++[.v (.slw 1)]++pu 1++[.v (.sl 2)]++pu 51,saved:=[[.v (.c (.pointer (some ⟨0,0,some 0⟩))),.v (.str)]++pu 2++[.v (.c (.bool false)),.v (.sl 3)]++pu 3++[.v (.str),.v (.sl 3),.v (.sl 3),.v (.c (.pointer (some ⟨3,0,some 0⟩))),.v (.str),.v (.bool),.v (.c (.bool true))]++pu 4++[.v (.c (.bool true)),.v (.c (.pointer (some ⟨0,0,some 0⟩))),.v (.sl 3),.v (.c (.pointer (some ⟨3,0,some 0⟩))),.v (.str),.v (.sl 3),.v (.slw 3)]++pu 228,[.v (.c (.pointer (some ⟨4,0,some 0⟩))),.v (.c (.pointer (some ⟨0,0,some 0⟩)))]],mem:=[.box [.v (.int .u8),.v (.sl 5),.v (.sl 6),.v (.int .u8),.v (.sl 7),.v (.sl 8),.v (.sl 9),.v (.sl 10),.v (.int .i64),.v (.sl 11),.v (.slw 12),.v (.int .i64),.v (.sl 13),.v (.sl 14),.v (.int .u8)],.row [.int .i64,.int .i64] true,.row [.int .i64,.int .i64,.int .i64,.int .i64] true,.row [.str] true,.box [.v (.c (.int .u8 0)),.v (.c (.slice none 0 0)),.v (.c (.slice none 0 0)),.v (.c (.int .u8 0)),.v (.c (.slice none 0 0)),.v (.c (.slice none 0 0)),.v (.c (.slice none 0 0)),.v (.c (.slice none 0 0)),.v (.c (.int .i64 0)),.v (.c (.slice none 0 0)),.v (.c (.slice none 0 0)),.v (.c (.int .i64 0)),.v (.c (.slice none 0 0)),.v (.c (.slice none 0 0)),.v (.c (.int .u8 0))],.deep [.int .i64,.slice [.int .i64],.slice [.int .i64]],.deep [.slice [.int .i64,.int .i64,.int .i64,.int .i64]],.deep [.slice [.int .i64,.int .i64]],.deep [.slice [.int .i64]],.row [.int .i64] true,.deep [.slice [.int .i64]],.row [.int .i64] true,.row [.int .i64] true,.row [.int .i64] true,.row [.int .i64,.int .i64,.int .i64] true]}
structure A_lrr where
 off:Nat
 wl:Nat
 xn:Nat
 ln:ByteArray
 wn:Nat
 ln_2:ByteArray
 wn_2:Nat
 wn_3:Nat
 w0:ByteArray
 b1:Bool
 wn_4:Nat
 w0_2:ByteArray
 wn_5:Nat
 o1:Nat
 wm:Nat
 k:Int
 can:Nat
 pin:Nat
 pc:Int
 won:Nat
 gvn:Nat
 aan:Nat
 fvn:Nat
 rr:Int
 lrn:Nat
 lpo:Nat
 lpn:Nat
 ld:Int
 ban:Nat
 pan:Nat
 cl:Int
 qq:Row
 sr:Row
 wr:Row
 ca:Row
 pi:Row
 wo:Row
 gv:Row
 aa:Row
 fv:Row
 lr:Row
 lp:Row
 ba:Row
 pa:Row
def mX(its:List It):Option A_lrr:=match its with|(.n off::.n wl::.n xn::.s ln::.n wn::.s ln_2::.n wn_2::.n wn_3::.s w0::.b b1::.n wn_4::.s w0_2::.n wn_5::.n o1::.n wm::.i k::.n can::.n pin::.i pc::.n won::.n gvn::.n aan::.n fvn::.i rr::.n lrn::.n lpo::.n lpn::.i ld::.n ban::.n pan::.i cl::.r qq::.r sr::.r wr::.r ca::.r pi::.r wo::.r gv::.r aa::.r fv::.r lr::.r lp::.r ba::.r pa::[])=>some ⟨off,wl,xn,ln,wn,ln_2,wn_2,wn_3,w0,b1,wn_4,w0_2,wn_5,o1,wm,k,can,pin,pc,won,gvn,aan,fvn,rr,lrn,lpo,lpn,ld,ban,pan,cl,qq,sr,wr,ca,pi,wo,gv,aa,fv,lr,lp,ba,pa⟩|_=>none
def ZM(x:A_lrr):Bool:=x.ln_2=x.ln∧x.wn_2=x.wn∧x.wn_3=x.wn∧x.wn_4=x.wn∧x.w0_2=x.w0∧x.wn_5=x.wn∧x.off=0∧x.wl=x.qq.n∧x.xn=x.sr.n∧x.qq.n<=1000000∧x.sr.n=0
def c_lrr_iff{x:A_lrr}:=@BC _ ZM _ _ rfl x
def lrr:FoldL A_lrr (Row):=⟨71,8,[0,7,9,8039080009],[0,6,7,9],XZ,mX,fun x j a=>(.n (2*j)::.n (x.qq.n-2*j)::.n (a.n)::.s x.ln::.n x.wn::.s x.ln::.n x.wn::.n x.wn::.s x.w0::.b x.b1::.n x.wn::.s x.w0::.n x.wn::.n x.o1::.n x.wm::.i x.k::.n x.can::.n x.pin::.i x.pc::.n x.won::.n x.gvn::.n x.aan::.n x.fvn::.i x.rr::.n x.lrn::.n x.lpo::.n x.lpn::.i x.ld::.n x.ban::.n x.pan::.i x.cl::.r x.qq::.r (a)::.r x.wr::.r x.ca::.r x.pi::.r x.wo::.r x.gv::.r x.aa::.r x.fv::.r x.lr::.r x.lp::.r x.ba::.r x.pa::[]),fun x=>x.qq.n/2,ZM,fun x=>x.sr,fun x j a=>UW a (x.qq.I (2*j) 0) (x.qq.I (2*j) 1) (x.qq.I (2*j+1) 0) (x.qq.I (2*j+1) 1),fun x a K=>K (.exit 0) (bst XZ (.n (2*(x.qq.n/2))::.n (x.qq.n-2*(x.qq.n/2))::.n (a.n)::.s x.ln::.n x.wn::.s x.ln::.n x.wn::.n x.wn::.s x.w0::.b x.b1::.n x.wn::.s x.w0::.n x.wn::.n x.o1::.n x.wm::.i x.k::.n x.can::.n x.pin::.i x.pc::.n x.won::.n x.gvn::.n x.aan::.n x.fvn::.i x.rr::.n x.lrn::.n x.lpo::.n x.lpn::.i x.ld::.n x.ban::.n x.pan::.i x.cl::.r x.qq::.r (a)::.r x.wr::.r x.ca::.r x.pi::.r x.wo::.r x.gv::.r x.aa::.r x.fv::.r x.lr::.r x.lp::.r x.ba::.r x.pa::[]))⟩
noncomputable def Cpi(sR:ByteArray->Row)(nC:Row->Bool)(nR:Row->Row)(nB qC:Row->Bool)(qR:Row->Row)(qB:Row->Bool)(w:ByteArray):Cx:=AU Tryz.prog fns [(70,nG sR w),(72,U6 nC nR nB),(115,UE qC qR qB)] [lrr.C]
theorem Aat(sR:ByteArray->Row)(nC:Row->Bool)(nR:Row->Row)(nB qC:Row->Bool)(qR:Row->Row)(qB:Row->Bool)(ww:ByteArray)(R:St->OD)(K:X->St->OD)(q off wl xn:Nat)(ln:ByteArray)(wn:Nat)(ln_2:ByteArray)(wn_2 wn_3:Nat)(w0:ByteArray)(b1:Bool)(wn_4:Nat)(w0_2:ByteArray)(wn_5 o1 wm:Nat)(k:Int)(can pin:Nat)(pc:Int)(won gvn aan fvn:Nat)(rr:Int)(lrn lpo lpn:Nat)(ld:Int)(ban pan:Nat)(cl:Int)(qq sr wr ca pi wo gv aa fv lr lp ba pa:Row):Ar (Cpi sR nC nR nB qC qR qB ww) 71 8 q (bst XZ (.n off::.n wl::.n xn::.s ln::.n wn::.s ln_2::.n wn_2::.n wn_3::.s w0::.b b1::.n wn_4::.s w0_2::.n wn_5::.n o1::.n wm::.i k::.n can::.n pin::.i pc::.n won::.n gvn::.n aan::.n fvn::.i rr::.n lrn::.n lpo::.n lpn::.i ld::.n ban::.n pan::.i cl::.r qq::.r sr::.r wr::.r ca::.r pi::.r wo::.r gv::.r aa::.r fv::.r lr::.r lp::.r ba::.r pa::[])) (BI [0,7,9,8039080009] (some [0,6,7,9]) R K)=br ((wl:Int)>=2) (br ((0:Int)<=0&&0<(wl:Int)) (br (0<=1&&1<(wl:Int)) (br (xn+(w_ (((((Row.zeros 1).setI 0 0 (qq.I (off+0) 0)).setI 0 1 (qq.I (off+0) 1)).setI 0 2 (qq.I (off+1) 0)).setI 0 (0+1+1+1) (qq.I (off+1) 1)) 0 1).n<=10000000000) (br (0<=(wl:Int)&&(wl:Int)<=(wl:Int)) (br (0<=2&&2<=(↑(wl:Int).toNat:Int)) (R (bst XZ (.n (off+2)::.n ((wl:Int).toNat-2)::.n (xn+1)::.s (ln)::.n (wn)::.s (ln_2)::.n (wn_2)::.n (wn_3)::.s (w0)::.b (b1)::.n (wn_4)::.s (w0_2)::.n (wn_5)::.n (o1)::.n (wm)::.i (k)::.n (can)::.n (pin)::.i (pc)::.n (won)::.n (gvn)::.n (aan)::.n (fvn)::.i (rr)::.n (lrn)::.n (lpo)::.n (lpn)::.i (ld)::.n (ban)::.n (pan)::.i (cl)::.r (qq)::.r ((w_ sr 0 xn).app (w_ (((((Row.zeros 1).setI 0 0 (qq.I (off+0) 0)).setI 0 1 (qq.I (off+0) 1)).setI 0 2 (qq.I (off+1) 0)).setI 0 3 (qq.I (off+1) 1)) 0 1))::.r (wr)::.r (ca)::.r (pi)::.r (wo)::.r (gv)::.r (aa)::.r (fv)::.r (lr)::.r (lp)::.r (ba)::.r (pa)::[]))) none) none) none) none) none) (K (.exit 0) ⟨[.pointer (some ⟨0,0,some 0⟩)]++us 6++[S_ 1 off wl]++us 1++[S_ 2 0 xn]++us 51,[[.pointer (some ⟨0,0,some 0⟩),.string ln]++us 2++[.bool false,S_ 3 0 wn]++us 3++[.string ln_2,S_ 3 0 wn_2,S_ 3 0 wn_3,.pointer (some ⟨3,0,some 0⟩),.string w0,.bool b1,.bool true]++us 4++[.bool true,.pointer (some ⟨0,0,some 0⟩),S_ 3 0 wn_4,.pointer (some ⟨3,0,some 0⟩),.string w0_2,S_ 3 0 wn_5,S_ 3 o1 wm]++us 228,[.pointer (some ⟨4,0,some 0⟩),.pointer (some ⟨0,0,some 0⟩)]],[some (.box [.int .u8 k,S_ 5 0 can,S_ 6 0 pin,.int .u8 pc,S_ 7 0 won,S_ 8 0 gvn,S_ 9 0 aan,S_ 10 0 fvn,i64 rr,S_ 11 0 lrn,S_ 12 lpo lpn,i64 ld,S_ 13 0 ban,S_ 14 0 pan,.int .u8 cl]),some (.row [.int .i64,.int .i64] true qq),some (.row [.int .i64,.int .i64,.int .i64,.int .i64] true sr),some (.row [.str] true wr),some (.box [.int .u8 0,.slice none 0 0,.slice none 0 0,.int .u8 0,.slice none 0 0,.slice none 0 0,.slice none 0 0,.slice none 0 0,i64 0,.slice none 0 0,.slice none 0 0,i64 0,.slice none 0 0,.slice none 0 0,.int .u8 0]),some (.deep [.int .i64,.slice [.int .i64],.slice [.int .i64]] ca none),some (.deep [.slice [.int .i64,.int .i64,.int .i64,.int .i64]] pi none),some (.deep [.slice [.int .i64,.int .i64]] wo none),some (.deep [.slice [.int .i64]] gv none),some (.row [.int .i64] true aa),some (.deep [.slice [.int .i64]] fv none),some (.row [.int .i64] true lr),some (.row [.int .i64] true lp),some (.row [.int .i64] true ba),some (.row [.int .i64,.int .i64,.int .i64] true pa)]⟩):=by kernel_rfl
theorem Af6(sR:ByteArray->Row)(nC:Row->Bool)(nR:Row->Row)(nB qC:Row->Bool)(qR:Row->Row)(qB:Row->Bool)(ww:ByteArray):Ai (Cpi sR nC nR nB qC qR qB ww) lrr.C:=lrr.ok (fun x j a=>a.n=j) (by kernel_rfl)
 (fun its x h hc=>by
  replace h:mX its=some x:=h;unfold mX at h;split at h
  ·cases h;obtain⟨h1,h2,h3,h4,h5,h6,h7,h8,h9,h10,h11⟩:=c_lrr_iff.1 hc;dsimp only at h1 h2 h3 h4 h5 h6 h7 h8 h9;subst h1 h2 h3 h4 h5 h6 h7 h8 h9;rfl
  ·cases h)
 (fun x hc=>by have:=c_lrr_iff.1 hc;show x.qq.n/2<18446744073709551616;omega)
 (fun x hc=>by
  exact(c_lrr_iff.1 hc).2.2.2.2.2.2.2.2.2.2)
 (fun x j a hc hi hI=>by
  replace hI:a.n=j:=hI;show a.n+1=j+1;omega)
 (fun q ⟨off0,wl0,xn0,ln,wn,ln_2,wn_2,wn_3,w0,b1,wn_4,w0_2,wn_5,o1,wm,k,can,pin,pc,won,gvn,aan,fvn,rr,lrn,lpo,lpn,ld,ban,pan,cl,qq,sr0,wr,ca,pi,wo,gv,aa,fv,lr,lp,ba,pa⟩ j a hc hi hI R K=>by
  obtain⟨h1,h2,h3,h4,h5,h6,h7,h8,h9,h10,h11⟩:=c_lrr_iff.1 hc;dsimp only at*
  replace hi:j<qq.n/2:=hi;refine(Aat sR nC nR nB qC qR qB ww R K q ((2*j)) ((qq.n-2*j)) ((a.n)) ln wn ln wn wn w0 b1 wn w0 wn o1 wm k can pin pc won gvn aan fvn rr lrn lpo lpn ld ban pan cl qq ((a)) wr ca pi wo gv aa fv lr lp ba pa).trans ?_;replace hI:a.n=j:=hI;have hw:2<=qq.n-2*j:=by omega
  refine Ak (A4 (by omega)) (Ak (by simp only[A2,A3];omega) (Ak (by simp only[A2,A3];omega) (Ak (A4 (by rw[wn_];omega)) (Ak (by simp only[A2,A3];omega) (Ak (by simp only[A2,A3];omega) ?_)))));rfl)
 (fun q ⟨off0,wl0,xn0,ln,wn,ln_2,wn_2,wn_3,w0,b1,wn_4,w0_2,wn_5,o1,wm,k,can,pin,pc,won,gvn,aan,fvn,rr,lrn,lpo,lpn,ld,ban,pan,cl,qq,sr0,wr,ca,pi,wo,gv,aa,fv,lr,lp,ba,pa⟩ a hc hI R K=>by
  obtain⟨h1,h2,h3,h4,h5,h6,h7,h8,h9,h10,h11⟩:=c_lrr_iff.1 hc;dsimp only at*
  refine(Aat sR nC nR nB qC qR qB ww R K q ((2*(qq.n/2))) ((qq.n-2*(qq.n/2))) ((a.n)) ln wn ln wn wn w0 b1 wn w0 wn o1 wm k can pin pc won gvn aan fvn rr lrn lpo lpn ld ban pan cl qq ((a)) wr ca pi wo gv aa fv lr lp ba pa).trans ?_;exact Dq (AB (by omega)) rfl)
theorem Af8(sR:ByteArray->Row)(nC:Row->Bool)(nR:Row->Row)(nB qC:Row->Bool)(qR:Row->Row)(qB:Row->Bool)(K:Value->St->OD)(ln:ByteArray)(k:Int)(ca pi:Row)(pc:Int)(wo gv aa fv:Row)(rr:Int)(lr lp:Row)(lpo lpn:Nat)(ld:Int)(ba pa:Row)(cl:Int):inl (Cpi sR nC nR nB qC qR qB sPiece) 8 28 [bx1,.string ln] {τ:=[bx0,bx1],saved:=[],mem:=YM k ca pi pc wo gv aa fv rr lr lp lpo lpn ld ba pa cl} (fun v s=>K v (Cc [0,1] s))=br (ln.size<4294967281&&{data:={toList:=[32]:Array UInt8}:ByteArray}.toList==sSpc.toList&&((sR ln).S 0 0).toList==sPiece.toList) (br ((0:Int)<=0&&0<(↑(Ah sPiece (sR ln)).n:Int)) (br ((0:Int)<=0&&0<(↑(Ah sPiece (sR ln)).n:Int)) (br (0<=(↑(Ah sPiece (sR ln)).n:Int)&&(↑(Ah sPiece (sR ln)).n:Int)<=(↑(Ah sPiece (sR ln)).n:Int)) (br (0<=1&&1<=(↑(↑(Ah sPiece (sR ln)).n:Int).toNat:Int)) (br (qC (w_ (Ah sPiece (sR ln)) 1 ((↑(Ah sPiece (sR ln)).n:Int).toNat-1))) (br (!qB (w_ (Ah sPiece (sR ln)) 1 ((↑(Ah sPiece (sR ln)).n:Int).toNat-1))) (K (Value.bool false) (D5 k ca.n pi.n pc wo.n gv.n aa.n fv.n rr lr.n lpo lpn ld ba.n pa.n cl ca pi wo gv aa fv lr lp ba pa)) (br (ZM (⟨0,(qR (w_ (Ah sPiece (sR ln)) 1 ((↑(Ah sPiece (sR ln)).n:Int).toNat-1))).n,0,ln,(Ah sPiece (sR ln)).n,ln,(Ah sPiece (sR ln)).n,(Ah sPiece (sR ln)).n,(Ah sPiece (sR ln)).S 0 0,((Ah sPiece (sR ln)).S 0 0).toList=={data:={toList:=[112,105,101,99,101]:Array UInt8}:ByteArray}.toList,(Ah sPiece (sR ln)).n,(Ah sPiece (sR ln)).S 0 0,(Ah sPiece (sR ln)).n,1,(↑(Ah sPiece (sR ln)).n:Int).toNat-1,k,ca.n,pi.n,pc,wo.n,gv.n,aa.n,fv.n,rr,lr.n,lpo,lpn,ld,ba.n,pa.n,cl,qR (w_ (Ah sPiece (sR ln)) 1 ((↑(Ah sPiece (sR ln)).n:Int).toNat-1)),Row.nil,Ah sPiece (sR ln),ca,pi,wo,gv,aa,fv,lr,lp,ba,pa⟩:A_lrr)) (br (pi.n+1<=10000000000) (K (Value.bool ((↑((qR (w_ (Ah sPiece (sR ln)) 1 ((↑(Ah sPiece (sR ln)).n:Int).toNat-1))).n-2*((qR (w_ (Ah sPiece (sR ln)) 1 ((↑(Ah sPiece (sR ln)).n:Int).toNat-1))).n/2)):Int)==0)) (D5 k ca.n (pi.n+1) pc wo.n gv.n aa.n fv.n rr lr.n lpo lpn ld ba.n pa.n cl ca ((w_ pi 0 pi.n).app (w_ ((Row.zeros 1).setR 0 0 (w_ (AP (fun j a=>UW a ((qR (w_ (Ah sPiece (sR ln)) (0+1) ((↑(Ah sPiece (sR ln)).n:Int).toNat-1))).I (2*j) 0) ((qR (w_ (Ah sPiece (sR ln)) (0+1) ((↑(Ah sPiece (sR ln)).n:Int).toNat-1))).I (2*j) 1) ((qR (w_ (Ah sPiece (sR ln)) (0+1) ((↑(Ah sPiece (sR ln)).n:Int).toNat-1))).I (2*j+1) 0) ((qR (w_ (Ah sPiece (sR ln)) (0+1) ((↑(Ah sPiece (sR ln)).n:Int).toNat-1))).I (2*j+1) 1)) ((qR (w_ (Ah sPiece (sR ln)) 1 ((↑(Ah sPiece (sR ln)).n:Int).toNat-1))).n/2) 0 Row.nil) 0 (AP (fun j a=>UW a ((qR (w_ (Ah sPiece (sR ln)) (0+1) ((↑(Ah sPiece (sR ln)).n:Int).toNat-1))).I (2*j) 0) ((qR (w_ (Ah sPiece (sR ln)) (0+1) ((↑(Ah sPiece (sR ln)).n:Int).toNat-1))).I (2*j) 1) ((qR (w_ (Ah sPiece (sR ln)) (0+1) ((↑(Ah sPiece (sR ln)).n:Int).toNat-1))).I (2*j+1) 0) ((qR (w_ (Ah sPiece (sR ln)) (0+1) ((↑(Ah sPiece (sR ln)).n:Int).toNat-1))).I (2*j+1) 1)) ((qR (w_ (Ah sPiece (sR ln)) 1 ((↑(Ah sPiece (sR ln)).n:Int).toNat-1))).n/2) 0 Row.nil).n)) 0 1)) wo gv aa fv lr lp ba pa)) none) none)) none) none) none) none) none) (none):=by kernel_rfl
def GM(x:Px):List (Option Blk):=YM x.k x.ca x.pi x.pc x.wo x.gv x.aa x.fv x.rr x.lr x.lp x.lpo x.lpn x.ld x.ba x.pa x.cl
def LD(x:Px):St:={τ:=[bx0,bx1],saved:=[],mem:=GM x}
def Gi(q:Row):Row:=AP (fun j a=>UW a (q.I (2*j) 0) (q.I (2*j) 1) (q.I (2*j+1) 0) (q.I (2*j+1) 1)) (q.n/2) 0 .nil
def evB(n:Nat):Bool:=((n-2*(n/2):Nat):Int)==0
def OB(o l:Row):Row:=(w_ o 0 o.n).app (w_ ((((Row.zeros 1).setI 0 0 (l.I 0 0)).setR 0 1 (w_ l 1 (l.n/2))).setR 0 2 (w_ l (0+(l.n/2+1)) (l.n-(l.n/2+1)))) 0 1)
def PM(o l:Row):Row:=(w_ o 0 o.n).app (w_ ((((Row.zeros 1).setI 0 0 (l.I 0 0)).setI 0 1 (l.I 1 0)).setI 0 2 (l.I 2 0)) 0 1)
def AY(w:List UInt8)(r:Row)(x:Px):Bool×Px:=
 bif w==Ae sPiece then(bif Em (Bf r)then(evB (Dy (Bf r)).n,{x with pi:=DU x.pi (Ad (Gi (Dy (Bf r))))})else(false,x))else
 bif w==Ae sWorth then(bif Em (Bf r)then(true,{x with wo:=DU x.wo (Ad (Dy (Bf r)))})else(false,x))else
 bif !DJ (Bf r)then(false,x)else
 bif w==Ae sCake then(bif decide (2<=(BD (Bf r)).n)&&decide ((BD (Bf r)).n%2=0)then(true,{x with ca:=OB x.ca (BD (Bf r))})else(false,x))else
 bif w==Ae sValues then(true,bif x.k==2 then{x with gv:=DU x.gv (Ad (BD (Bf r)))}else{x with fv:=DU x.fv (Ad (BD (Bf r)))})else
 bif w==Ae sGive then(true,{x with aa:=BD (Bf r)})else
 bif w==Ae sRent then(bif (BD (Bf r)).n=1 then(true,{x with rr:=(BD (Bf r)).I 0 0})else(false,x))else
 bif w==Ae sRooms then(true,{x with lr:=BD (Bf r)})else
 bif w==Ae sPrices then(bif 0<(BD (Bf r)).n then(true,{x with ld:=(BD (Bf r)).I 0 0,lp:=BD (Bf r),lpo:=1,lpn:=(BD (Bf r)).n-1})else(false,x))else
 bif w==Ae sBalances then(true,{x with ba:=BD (Bf r)})else
 bif w==Ae sPay then(bif (BD (Bf r)).n=3 then(true,{x with pa:=PM x.pa (BD (Bf r))})else(false,x))else
 bif w==Ae sClaims then(bif (BD (Bf r)).n=1∧0<=(BD (Bf r)).I 0 0∧(BD (Bf r)).I 0 0<=31 then(true,bif x.k==1 then{x with pc:=IntKind.u8.wrap ((BD (Bf r)).I 0 0)}else{x with cl:=IntKind.u8.wrap ((BD (Bf r)).I 0 0)})else(false,x))else(false,x)
def CJ(ln:ByteArray)(x:Px):Bool×Px:=AY (Ae ((AV ln).S 0 0)) (AV ln) x
def Rh(ln:ByteArray)(x:Px):Bool:=decide (ln.size<4294967281∧x.ca.n<=1000000∧x.pi.n<=1000000∧x.wo.n<=1000000∧x.gv.n<=1000000∧x.fv.n<=1000000∧x.pa.n<=1000000)&&BN (Bf (AV ln))
theorem Afn(l:List ByteArray):Ah (l.getD 0 .empty) (Yp l)=Yp l:=by
 have h:(fun(e j:Nat)=>match e with|0=>l.getD 0 .empty|e+1=>(Yp l).S (e+1) j)=(fun e _=>l.getD e .empty:Nat->Nat->ByteArray):=by
  funext e j;cases e<;>rfl
 exact congrArg (fun f=>Row.mk l.length (fun _ _=>0) (fun _ _=>false) f (fun _ _=>.nil)) h
theorem Ff{s:ByteArray}{w:ByteArray}(h:(AV s).S 0 0=w):Ah w (AV s)=AV s:=by
 rw[<-h];exact Afn (CS s sSpc)
theorem Ai1(w:ByteArray):∀p,p∈[(70,nG AV w),(72,U6 BN BD DJ),(115,UE BN Dy Em)]->DenW Tryz.prog Wd p.1 p.2:=by
 intro p h;simp only[A8,A7,or_false]at h;rcases h with rfl|rfl|rfl
 ·refine den_split.less fun ds rs h=>?_;replace h:nG AV w ds=some (true,rs):=h;unfold nG at h;split at h
  ·rename_i s p;simp only[A5,A6,A2,A3]at h;obtain⟨⟨⟨h1,h2⟩,h3⟩,rfl⟩:=h;have e2:p=sSpc:=Ci _ _|>.1 h2;have e3:(AV s).S 0 0=w:=Ci _ _|>.1 h3;subst e2;show some (decide (s.size<4294967281)&&decide (1<=sSpc.size),[D.slice [.str] (AV s)])=some (true,[D.slice [.str] (Ah w (AV s))]);rw[A4 h1,show decide (1<=sSpc.size)=true by decide,Ff e3];rfl
  ·cases h
 ·exact UO
 ·exact U9
theorem Gw(w:ByteArray):P8 (J8 AV BN BD DJ BN Dy Em w) Wd:=CP enter mixed (Ai1 w) (fun l h=>by cases h)
theorem Abt(w:ByteArray):P8 (Cpi AV BN BD DJ BN Dy Em w) Wd:=CP enter mixed (Ai1 w) (fun l h=>by
 simp only[A8,A7,or_false]at h;rcases h with rfl;exact Af6 ..)
theorem Ik(s:ByteArray):1<=(AV s).n:=by
 have h1:=Ln.splS_pieces 32 s.size s (AC _);have h2:(CS s sSpc).length=(Ln.pieces 32 (Ae s)).length:=by
  rw[<-h1,List.length_map];rfl
 have h3:1<=(CS s sSpc).length:=by
  rw[h2];have:=Ln.pieces_ne 32 (Ae s);cases hp:Ln.pieces 32 (Ae s)with
  |nil=>exact absurd hp this
  |cons a b=>simp
 exact h3
theorem vZ{s:ByteArray}{x:Px}(hw:(AV s).S 0 0=sGive)(hc:Rh s x=true)(J:Value->St->OD):inl (J8 AV BN BD DJ BN Dy Em sGive) 8 28 [bx1,.string s] {τ:=[bx0,bx1],saved:=[],mem:=GM x} (fun v σ=>J v (Cc [0,1] σ))=J (.bool (CJ s x).1) (LD (CJ s x).2):=by
 obtain⟨hc,cz⟩:=Bool.and_eq_true_iff.1 hc;obtain⟨z1,z2,z3,z4,z5,z6,z7⟩:=AD hc;have e:=Ff hw;have hn:=Ik s;have hX:CJ s x=AY (Ae sGive) (AV s) x:=by unfold CJ;rw[hw]
 rw[hX];refine(Aja AV BN BD DJ BN Dy Em J s x.k x.ca x.pi x.pc x.wo x.gv x.aa x.fv x.rr x.lr x.lp x.lpo x.lpn x.ld x.ba x.pa x.cl).trans ?_;rw[e];generalize hr:AV s=r at*
 have i0:(decide ((0:Int)<=0)&&decide ((0:Int)<(r.n:Int)))=true:=by simp only[A2,A3];omega
 have iF:(decide ((0:Int)<=(r.n:Int))&&decide ((r.n:Int)<=(r.n:Int)))=true:=by simp only[A2,A3];omega
 have i1:(decide ((0:Int)<=1)&&decide ((1:Int)<=(((r.n:Int).toNat:Nat):Int)))=true:=by simp only[A2,A3];omega
 refine Ak (by rw[A4 z1,hw];exact Bool.and_eq_true_iff.2 ⟨(beq_self_eq_true sSpc.toList:(sSpc.toList==sSpc.toList)=true),beq_self_eq_true _⟩) (Ak i0 ?_)
 repeat refine Ak i0 ?_
 refine Ak iF (Ak i1 (Ak cz ?_));have ht:w_ r 1 ((r.n:Int).toNat-1)=Bf r:=rfl;have ht':w_ r (0+1) ((r.n:Int).toNat-1)=Bf r:=rfl;rw[ht];cases hB:DJ (Bf r)
 ·rw[show AY (Ae sGive) r x=(false,x) by unfold AY;rw[hB];rfl];exact Ak rfl rfl
 refine Dq rfl ?_
 try rw[ht']
 repeat refine Ak i0 ?_
 have hL:AY (Ae sGive) r x=(true,{x with aa:=BD (Bf r)}):=by unfold AY;rw[hB];rfl
 rw[hL];clear hL;generalize hl:BD (Bf r)=l;rfl
theorem fZ{s:ByteArray}{x:Px}(hw:(AV s).S 0 0=sRooms)(hc:Rh s x=true)(J:Value->St->OD):inl (J8 AV BN BD DJ BN Dy Em sRooms) 8 28 [bx1,.string s] {τ:=[bx0,bx1],saved:=[],mem:=GM x} (fun v σ=>J v (Cc [0,1] σ))=J (.bool (CJ s x).1) (LD (CJ s x).2):=by
 obtain⟨hc,cz⟩:=Bool.and_eq_true_iff.1 hc;obtain⟨z1,z2,z3,z4,z5,z6,z7⟩:=AD hc;have e:=Ff hw;have hn:=Ik s;have hX:CJ s x=AY (Ae sRooms) (AV s) x:=by unfold CJ;rw[hw]
 rw[hX];refine(Ac4 AV BN BD DJ BN Dy Em J s x.k x.ca x.pi x.pc x.wo x.gv x.aa x.fv x.rr x.lr x.lp x.lpo x.lpn x.ld x.ba x.pa x.cl).trans ?_;rw[e];generalize hr:AV s=r at*
 have i0:(decide ((0:Int)<=0)&&decide ((0:Int)<(r.n:Int)))=true:=by simp only[A2,A3];omega
 have iF:(decide ((0:Int)<=(r.n:Int))&&decide ((r.n:Int)<=(r.n:Int)))=true:=by simp only[A2,A3];omega
 have i1:(decide ((0:Int)<=1)&&decide ((1:Int)<=(((r.n:Int).toNat:Nat):Int)))=true:=by simp only[A2,A3];omega
 refine Ak (by rw[A4 z1,hw];exact Bool.and_eq_true_iff.2 ⟨(beq_self_eq_true sSpc.toList:(sSpc.toList==sSpc.toList)=true),beq_self_eq_true _⟩) (Ak i0 ?_)
 repeat refine Ak i0 ?_
 refine Ak iF (Ak i1 (Ak cz ?_));have ht:w_ r 1 ((r.n:Int).toNat-1)=Bf r:=rfl;have ht':w_ r (0+1) ((r.n:Int).toNat-1)=Bf r:=rfl;rw[ht];cases hB:DJ (Bf r)
 ·rw[show AY (Ae sRooms) r x=(false,x) by unfold AY;rw[hB];rfl];exact Ak rfl rfl
 refine Dq rfl ?_
 try rw[ht']
 repeat refine Ak i0 ?_
 have hL:AY (Ae sRooms) r x=(true,{x with lr:=BD (Bf r)}):=by unfold AY;rw[hB];rfl
 rw[hL];clear hL;generalize hl:BD (Bf r)=l;rfl
theorem U0{s:ByteArray}{x:Px}(hw:(AV s).S 0 0=sBalances)(hc:Rh s x=true)(J:Value->St->OD):inl (J8 AV BN BD DJ BN Dy Em sBalances) 8 28 [bx1,.string s] {τ:=[bx0,bx1],saved:=[],mem:=GM x} (fun v σ=>J v (Cc [0,1] σ))=J (.bool (CJ s x).1) (LD (CJ s x).2):=by
 obtain⟨hc,cz⟩:=Bool.and_eq_true_iff.1 hc;obtain⟨z1,z2,z3,z4,z5,z6,z7⟩:=AD hc;have e:=Ff hw;have hn:=Ik s;have hX:CJ s x=AY (Ae sBalances) (AV s) x:=by unfold CJ;rw[hw]
 rw[hX];refine(Yi AV BN BD DJ BN Dy Em J s x.k x.ca x.pi x.pc x.wo x.gv x.aa x.fv x.rr x.lr x.lp x.lpo x.lpn x.ld x.ba x.pa x.cl).trans ?_;rw[e];generalize hr:AV s=r at*
 have i0:(decide ((0:Int)<=0)&&decide ((0:Int)<(r.n:Int)))=true:=by simp only[A2,A3];omega
 have iF:(decide ((0:Int)<=(r.n:Int))&&decide ((r.n:Int)<=(r.n:Int)))=true:=by simp only[A2,A3];omega
 have i1:(decide ((0:Int)<=1)&&decide ((1:Int)<=(((r.n:Int).toNat:Nat):Int)))=true:=by simp only[A2,A3];omega
 refine Ak (by rw[A4 z1,hw];exact Bool.and_eq_true_iff.2 ⟨(beq_self_eq_true sSpc.toList:(sSpc.toList==sSpc.toList)=true),beq_self_eq_true _⟩) (Ak i0 ?_)
 repeat refine Ak i0 ?_
 refine Ak iF (Ak i1 (Ak cz ?_));have ht:w_ r 1 ((r.n:Int).toNat-1)=Bf r:=rfl;have ht':w_ r (0+1) ((r.n:Int).toNat-1)=Bf r:=rfl;rw[ht];cases hB:DJ (Bf r)
 ·rw[show AY (Ae sBalances) r x=(false,x) by unfold AY;rw[hB];rfl];exact Ak rfl rfl
 refine Dq rfl ?_
 try rw[ht']
 repeat refine Ak i0 ?_
 have hL:AY (Ae sBalances) r x=(true,{x with ba:=BD (Bf r)}):=by unfold AY;rw[hB];rfl
 rw[hL];clear hL;generalize hl:BD (Bf r)=l;rfl
theorem Yj{s:ByteArray}{x:Px}(hw:(AV s).S 0 0=sValues)(hc:Rh s x=true)(J:Value->St->OD):inl (J8 AV BN BD DJ BN Dy Em sValues) 8 28 [bx1,.string s] {τ:=[bx0,bx1],saved:=[],mem:=GM x} (fun v σ=>J v (Cc [0,1] σ))=J (.bool (CJ s x).1) (LD (CJ s x).2):=by
 obtain⟨hc,cz⟩:=Bool.and_eq_true_iff.1 hc;obtain⟨z1,z2,z3,z4,z5,z6,z7⟩:=AD hc;have e:=Ff hw;have hn:=Ik s;have hX:CJ s x=AY (Ae sValues) (AV s) x:=by unfold CJ;rw[hw]
 rw[hX];refine(rE AV BN BD DJ BN Dy Em J s x.k x.ca x.pi x.pc x.wo x.gv x.aa x.fv x.rr x.lr x.lp x.lpo x.lpn x.ld x.ba x.pa x.cl).trans ?_;rw[e];generalize hr:AV s=r at*
 have i0:(decide ((0:Int)<=0)&&decide ((0:Int)<(r.n:Int)))=true:=by simp only[A2,A3];omega
 have iF:(decide ((0:Int)<=(r.n:Int))&&decide ((r.n:Int)<=(r.n:Int)))=true:=by simp only[A2,A3];omega
 have i1:(decide ((0:Int)<=1)&&decide ((1:Int)<=(((r.n:Int).toNat:Nat):Int)))=true:=by simp only[A2,A3];omega
 refine Ak (by rw[A4 z1,hw];exact Bool.and_eq_true_iff.2 ⟨(beq_self_eq_true sSpc.toList:(sSpc.toList==sSpc.toList)=true),beq_self_eq_true _⟩) (Ak i0 ?_)
 repeat refine Ak i0 ?_
 refine Ak iF (Ak i1 (Ak cz ?_));have ht:w_ r 1 ((r.n:Int).toNat-1)=Bf r:=rfl;have ht':w_ r (0+1) ((r.n:Int).toNat-1)=Bf r:=rfl;rw[ht];cases hB:DJ (Bf r)
 ·rw[show AY (Ae sValues) r x=(false,x) by unfold AY;rw[hB];rfl];exact Ak rfl rfl
 refine Dq rfl ?_
 try rw[ht']
 repeat refine Ak i0 ?_
 have hL:AY (Ae sValues) r x=(true,bif x.k==2 then{x with gv:=DU x.gv (Ad (BD (Bf r)))}else{x with fv:=DU x.fv (Ad (BD (Bf r)))}):=by unfold AY;rw[hB];rfl
 rw[hL];clear hL;generalize hl:BD (Bf r)=l;cases hk:x.k==2
 ·refine Dq rfl ?_
  repeat refine Ak i0 ?_
  exact Ak (A4 (by omega)) rfl
 ·exact Ak rfl (Ak (A4 (by omega)) rfl)
theorem wB{s:ByteArray}{x:Px}(hw:(AV s).S 0 0=sRent)(hc:Rh s x=true)(J:Value->St->OD):inl (J8 AV BN BD DJ BN Dy Em sRent) 8 28 [bx1,.string s] {τ:=[bx0,bx1],saved:=[],mem:=GM x} (fun v σ=>J v (Cc [0,1] σ))=J (.bool (CJ s x).1) (LD (CJ s x).2):=by
 obtain⟨hc,cz⟩:=Bool.and_eq_true_iff.1 hc;obtain⟨z1,z2,z3,z4,z5,z6,z7⟩:=AD hc;have e:=Ff hw;have hn:=Ik s;have hX:CJ s x=AY (Ae sRent) (AV s) x:=by unfold CJ;rw[hw]
 rw[hX];refine(Ajt AV BN BD DJ BN Dy Em J s x.k x.ca x.pi x.pc x.wo x.gv x.aa x.fv x.rr x.lr x.lp x.lpo x.lpn x.ld x.ba x.pa x.cl).trans ?_;rw[e];generalize hr:AV s=r at*
 have i0:(decide ((0:Int)<=0)&&decide ((0:Int)<(r.n:Int)))=true:=by simp only[A2,A3];omega
 have iF:(decide ((0:Int)<=(r.n:Int))&&decide ((r.n:Int)<=(r.n:Int)))=true:=by simp only[A2,A3];omega
 have i1:(decide ((0:Int)<=1)&&decide ((1:Int)<=(((r.n:Int).toNat:Nat):Int)))=true:=by simp only[A2,A3];omega
 refine Ak (by rw[A4 z1,hw];exact Bool.and_eq_true_iff.2 ⟨(beq_self_eq_true sSpc.toList:(sSpc.toList==sSpc.toList)=true),beq_self_eq_true _⟩) (Ak i0 ?_)
 repeat refine Ak i0 ?_
 refine Ak iF (Ak i1 (Ak cz ?_));have ht:w_ r 1 ((r.n:Int).toNat-1)=Bf r:=rfl;have ht':w_ r (0+1) ((r.n:Int).toNat-1)=Bf r:=rfl;rw[ht];cases hB:DJ (Bf r)
 ·rw[show AY (Ae sRent) r x=(false,x) by unfold AY;rw[hB];rfl];exact Ak rfl rfl
 refine Dq rfl ?_
 try rw[ht']
 repeat refine Ak i0 ?_
 have hL:AY (Ae sRent) r x=(bif (BD (Bf r)).n=1 then(true,{x with rr:=(BD (Bf r)).I 0 0})else(false,x)):=by unfold AY;rw[hB];rfl
 rw[hL];clear hL;generalize hl:BD (Bf r)=l;by_cases hk:l.n=1
 ·rw[A4 hk];exact Ak (by rw[hk];rfl) (Ak (by simp only[A2,A3];omega) rfl)
 ·rw[AB hk];refine Dq (by simp;omega) ?_
  repeat refine Ak i0 ?_
  rfl
theorem Yr{s:ByteArray}{x:Px}(hw:(AV s).S 0 0=sPrices)(hc:Rh s x=true)(J:Value->St->OD):inl (J8 AV BN BD DJ BN Dy Em sPrices) 8 28 [bx1,.string s] {τ:=[bx0,bx1],saved:=[],mem:=GM x} (fun v σ=>J v (Cc [0,1] σ))=J (.bool (CJ s x).1) (LD (CJ s x).2):=by
 obtain⟨hc,cz⟩:=Bool.and_eq_true_iff.1 hc;obtain⟨z1,z2,z3,z4,z5,z6,z7⟩:=AD hc;have e:=Ff hw;have hn:=Ik s;have hX:CJ s x=AY (Ae sPrices) (AV s) x:=by unfold CJ;rw[hw]
 rw[hX];refine(wG AV BN BD DJ BN Dy Em J s x.k x.ca x.pi x.pc x.wo x.gv x.aa x.fv x.rr x.lr x.lp x.lpo x.lpn x.ld x.ba x.pa x.cl).trans ?_;rw[e];generalize hr:AV s=r at*
 have i0:(decide ((0:Int)<=0)&&decide ((0:Int)<(r.n:Int)))=true:=by simp only[A2,A3];omega
 have iF:(decide ((0:Int)<=(r.n:Int))&&decide ((r.n:Int)<=(r.n:Int)))=true:=by simp only[A2,A3];omega
 have i1:(decide ((0:Int)<=1)&&decide ((1:Int)<=(((r.n:Int).toNat:Nat):Int)))=true:=by simp only[A2,A3];omega
 refine Ak (by rw[A4 z1,hw];exact Bool.and_eq_true_iff.2 ⟨(beq_self_eq_true sSpc.toList:(sSpc.toList==sSpc.toList)=true),beq_self_eq_true _⟩) (Ak i0 ?_)
 repeat refine Ak i0 ?_
 refine Ak iF (Ak i1 (Ak cz ?_));have ht:w_ r 1 ((r.n:Int).toNat-1)=Bf r:=rfl;have ht':w_ r (0+1) ((r.n:Int).toNat-1)=Bf r:=rfl;rw[ht];cases hB:DJ (Bf r)
 ·rw[show AY (Ae sPrices) r x=(false,x) by unfold AY;rw[hB];rfl];exact Ak rfl rfl
 refine Dq rfl ?_
 try rw[ht']
 repeat refine Ak i0 ?_
 have hL:AY (Ae sPrices) r x=(bif 0<(BD (Bf r)).n then(true,{x with ld:=(BD (Bf r)).I 0 0,lp:=BD (Bf r),lpo:=1,lpn:=(BD (Bf r)).n-1})else(false,x)):=by unfold AY;rw[hB];rfl
 rw[hL];clear hL;generalize hl:BD (Bf r)=l;by_cases hk:0<l.n
 ·rw[A4 hk];exact Ak (A4 (by omega)) (Ak (by simp only[A2,A3];omega) (Ak (by simp only[A2,A3];omega) (Ak (by simp only[A2,A3];omega) rfl)))
 ·rw[AB hk];refine Dq (AB (by omega)) ?_
  repeat refine Ak i0 ?_
  rfl
theorem Ae7{s:ByteArray}{x:Px}(hw:(AV s).S 0 0=sPay)(hc:Rh s x=true)(J:Value->St->OD):inl (J8 AV BN BD DJ BN Dy Em sPay) 8 28 [bx1,.string s] {τ:=[bx0,bx1],saved:=[],mem:=GM x} (fun v σ=>J v (Cc [0,1] σ))=J (.bool (CJ s x).1) (LD (CJ s x).2):=by
 obtain⟨hc,cz⟩:=Bool.and_eq_true_iff.1 hc;obtain⟨z1,z2,z3,z4,z5,z6,z7⟩:=AD hc;have e:=Ff hw;have hn:=Ik s;have hX:CJ s x=AY (Ae sPay) (AV s) x:=by unfold CJ;rw[hw]
 rw[hX];refine(Akv AV BN BD DJ BN Dy Em J s x.k x.ca x.pi x.pc x.wo x.gv x.aa x.fv x.rr x.lr x.lp x.lpo x.lpn x.ld x.ba x.pa x.cl).trans ?_;rw[e];generalize hr:AV s=r at*
 have i0:(decide ((0:Int)<=0)&&decide ((0:Int)<(r.n:Int)))=true:=by simp only[A2,A3];omega
 have iF:(decide ((0:Int)<=(r.n:Int))&&decide ((r.n:Int)<=(r.n:Int)))=true:=by simp only[A2,A3];omega
 have i1:(decide ((0:Int)<=1)&&decide ((1:Int)<=(((r.n:Int).toNat:Nat):Int)))=true:=by simp only[A2,A3];omega
 refine Ak (by rw[A4 z1,hw];exact Bool.and_eq_true_iff.2 ⟨(beq_self_eq_true sSpc.toList:(sSpc.toList==sSpc.toList)=true),beq_self_eq_true _⟩) (Ak i0 ?_)
 repeat refine Ak i0 ?_
 refine Ak iF (Ak i1 (Ak cz ?_));have ht:w_ r 1 ((r.n:Int).toNat-1)=Bf r:=rfl;have ht':w_ r (0+1) ((r.n:Int).toNat-1)=Bf r:=rfl;rw[ht];cases hB:DJ (Bf r)
 ·rw[show AY (Ae sPay) r x=(false,x) by unfold AY;rw[hB];rfl];exact Ak rfl rfl
 refine Dq rfl ?_
 try rw[ht']
 repeat refine Ak i0 ?_
 have hL:AY (Ae sPay) r x=(bif (BD (Bf r)).n=3 then(true,{x with pa:=PM x.pa (BD (Bf r))})else(false,x)):=by unfold AY;rw[hB];rfl
 rw[hL];clear hL;generalize hl:BD (Bf r)=l;by_cases hk:l.n=3
 ·rw[A4 hk];exact Ak (by rw[hk];rfl) (Ak (by simp only[A2,A3];omega) (Ak (by simp only[A2,A3];omega) (Ak (by simp only[A2,A3];omega) (Ak (A4 (by rw[wn_];omega)) rfl))))
 ·rw[AB hk];refine Dq (by simp;omega) ?_
  repeat refine Ak i0 ?_
  rfl
theorem Y4{s:ByteArray}{x:Px}(hw:(AV s).S 0 0=sClaims)(hc:Rh s x=true)(J:Value->St->OD):inl (J8 AV BN BD DJ BN Dy Em sClaims) 8 28 [bx1,.string s] {τ:=[bx0,bx1],saved:=[],mem:=GM x} (fun v σ=>J v (Cc [0,1] σ))=J (.bool (CJ s x).1) (LD (CJ s x).2):=by
 obtain⟨hc,cz⟩:=Bool.and_eq_true_iff.1 hc;obtain⟨z1,z2,z3,z4,z5,z6,z7⟩:=AD hc;have e:=Ff hw;have hn:=Ik s;have hX:CJ s x=AY (Ae sClaims) (AV s) x:=by unfold CJ;rw[hw]
 rw[hX];refine(rQ AV BN BD DJ BN Dy Em J s x.k x.ca x.pi x.pc x.wo x.gv x.aa x.fv x.rr x.lr x.lp x.lpo x.lpn x.ld x.ba x.pa x.cl).trans ?_;rw[e];generalize hr:AV s=r at*
 have i0:(decide ((0:Int)<=0)&&decide ((0:Int)<(r.n:Int)))=true:=by simp only[A2,A3];omega
 have iF:(decide ((0:Int)<=(r.n:Int))&&decide ((r.n:Int)<=(r.n:Int)))=true:=by simp only[A2,A3];omega
 have i1:(decide ((0:Int)<=1)&&decide ((1:Int)<=(((r.n:Int).toNat:Nat):Int)))=true:=by simp only[A2,A3];omega
 refine Ak (by rw[A4 z1,hw];exact Bool.and_eq_true_iff.2 ⟨(beq_self_eq_true sSpc.toList:(sSpc.toList==sSpc.toList)=true),beq_self_eq_true _⟩) (Ak i0 ?_)
 repeat refine Ak i0 ?_
 refine Ak iF (Ak i1 (Ak cz ?_));have ht:w_ r 1 ((r.n:Int).toNat-1)=Bf r:=rfl;have ht':w_ r (0+1) ((r.n:Int).toNat-1)=Bf r:=rfl;rw[ht];cases hB:DJ (Bf r)
 ·rw[show AY (Ae sClaims) r x=(false,x) by unfold AY;rw[hB];rfl];exact Ak rfl rfl
 refine Dq rfl ?_
 try rw[ht']
 repeat refine Ak i0 ?_
 have hL:AY (Ae sClaims) r x=(bif (BD (Bf r)).n=1∧0<=(BD (Bf r)).I 0 0∧(BD (Bf r)).I 0 0<=31 then(true,bif x.k==1 then{x with pc:=IntKind.u8.wrap ((BD (Bf r)).I 0 0)}else{x with cl:=IntKind.u8.wrap ((BD (Bf r)).I 0 0)})else(false,x)):=by unfold AY;rw[hB];rfl
 rw[hL];clear hL;generalize hl:BD (Bf r)=l;by_cases hk:l.n=1
 ·have j0:(decide ((0:Int)<=0)&&decide ((0:Int)<(l.n:Int)))=true:=(by simp only[A2,A3];omega);refine Ak (by rw[hk];rfl) (Ak j0 ?_);by_cases h0:0<=l.I 0 0
  ·refine Ak (A4 h0) (Ak j0 ?_);by_cases h1:l.I 0 0<=31
   ·rw[A4 (⟨hk,h0,h1⟩:l.n=1∧0<=l.I 0 0∧l.I 0 0<=31)];refine Ak (A4 h1) ?_;cases x.k==1
    ·exact Dq rfl (Ak j0 rfl)
    ·exact Ak rfl (Ak j0 rfl)
   ·rw[AB (fun h=>h1 h.2.2:¬(l.n=1∧0<=l.I 0 0∧l.I 0 0<=31))];exact Dq (AB h1) rfl
  ·rw[AB (fun h=>h0 h.2.1:¬(l.n=1∧0<=l.I 0 0∧l.I 0 0<=31))];exact Dq (AB h0) rfl
 ·rw[AB (fun h=>hk h.1:¬(l.n=1∧0<=l.I 0 0∧l.I 0 0<=31))];refine Dq (by simp;omega) ?_
  repeat refine Ak i0 ?_
  rfl
theorem Aba{s:ByteArray}(h:BN (Bf (AV s))=true):(BD (Bf (AV s))).n<=1000000:=Nat.le_trans (Aho _) (Q8 h).1
theorem Abz{s:ByteArray}(h:BN (Bf (AV s))=true):(Dy (Bf (AV s))).n<=1000000:=Nat.le_trans (Aiw _) (Q8 h).1
theorem Afk{n:Nat}(h:n<=1000000):IntKind.i64.wrap (IntKind.i64.wrap ((n:Int).tdiv 2)+1)=((n/2+1:Nat):Int):=by
 have e:(n:Int).tdiv 2=((n/2:Nat):Int):=by
  rw[Int.tdiv_eq_ediv_of_nonneg (by omega)];omega
 rw[e,show IntKind.i64.wrap ((n/2:Nat):Int)=((n/2:Nat):Int)from wrap64 (by omega) (by omega),wrap64 (by omega) (by omega)];omega
theorem Aj5{n:Nat}:((n:Int).tmod 2==0)=decide (n%2=0):=by
 have e:(n:Int).tmod 2=((n%2:Nat):Int):=by
  rw[Int.tmod_eq_emod_of_nonneg (by omega)];omega
 rw[e];by_cases h:n%2=0
 ·rw[h];rfl
 ·rw[AB h];simp;omega
theorem rW{s:ByteArray}{x:Px}(hw:(AV s).S 0 0=sCake)(hc:Rh s x=true)(J:Value->St->OD):inl (J8 AV BN BD DJ BN Dy Em sCake) 8 28 [bx1,.string s] {τ:=[bx0,bx1],saved:=[],mem:=GM x} (fun v σ=>J v (Cc [0,1] σ))=J (.bool (CJ s x).1) (LD (CJ s x).2):=by
 obtain⟨hc,cz⟩:=Bool.and_eq_true_iff.1 hc;obtain⟨z1,z2,z3,z4,z5,z6,z7⟩:=AD hc;have hN:=Aba cz;have e:=Ff hw;have hn:=Ik s;have hX:CJ s x=AY (Ae sCake) (AV s) x:=by unfold CJ;rw[hw]
 rw[hX];refine(Ahj AV BN BD DJ BN Dy Em J s x.k x.ca x.pi x.pc x.wo x.gv x.aa x.fv x.rr x.lr x.lp x.lpo x.lpn x.ld x.ba x.pa x.cl).trans ?_;rw[e];generalize hr:AV s=r at*
 have i0:(decide ((0:Int)<=0)&&decide ((0:Int)<(r.n:Int)))=true:=by simp only[A2,A3];omega
 have iF:(decide ((0:Int)<=(r.n:Int))&&decide ((r.n:Int)<=(r.n:Int)))=true:=by simp only[A2,A3];omega
 have i1:(decide ((0:Int)<=1)&&decide ((1:Int)<=(((r.n:Int).toNat:Nat):Int)))=true:=by simp only[A2,A3];omega
 refine Ak (by rw[A4 z1,hw];exact Bool.and_eq_true_iff.2 ⟨(beq_self_eq_true sSpc.toList:(sSpc.toList==sSpc.toList)=true),beq_self_eq_true _⟩) (Ak i0 ?_)
 repeat refine Ak i0 ?_
 refine Ak iF (Ak i1 (Ak cz ?_));have ht:w_ r 1 ((r.n:Int).toNat-1)=Bf r:=rfl;have ht':w_ r (0+1) ((r.n:Int).toNat-1)=Bf r:=rfl;rw[ht];cases hB:DJ (Bf r)
 ·rw[show AY (Ae sCake) r x=(false,x) by unfold AY;rw[hB];rfl];exact Ak rfl rfl
 refine Dq rfl ?_
 try rw[ht']
 repeat refine Ak i0 ?_
 have hL:AY (Ae sCake) r x=(bif decide (2<=(BD (Bf r)).n)&&decide ((BD (Bf r)).n%2=0)then(true,{x with ca:=OB x.ca (BD (Bf r))})else(false,x)):=by unfold AY;rw[hB];rfl
 rw[hL];clear hL;generalize hl:BD (Bf r)=l;rw[hl]at hN;rw[Afk hN,Aj5];by_cases h2:2<=l.n
 ·rw[A4 h2,Bool.true_and];refine Ak (A4 (by omega)) ?_;by_cases h3:l.n%2=0
  ·rw[A4 h3];exact Ak rfl (Ak (by simp only[A2,A3];omega) (Ak (by simp only[A2,A3];omega) (Ak (by simp only[A2,A3];omega) (Ak (by simp only[A2,A3];omega) (Ak (by simp only[A2,A3];omega) (Ak (by simp only[A2,A3];omega) (Ak (A4 (by omega)) rfl)))))))
  ·rw[AB h3];refine Dq rfl ?_
   repeat refine Ak i0 ?_
   rfl
 ·rw[AB h2,Bool.false_and];refine Dq (AB (by omega)) ?_
  repeat refine Ak i0 ?_
  rfl
theorem aG{s:ByteArray}{x:Px}(hw:(AV s).S 0 0=sWorth)(hc:Rh s x=true)(J:Value->St->OD):inl (J8 AV BN BD DJ BN Dy Em sWorth) 8 28 [bx1,.string s] {τ:=[bx0,bx1],saved:=[],mem:=GM x} (fun v σ=>J v (Cc [0,1] σ))=J (.bool (CJ s x).1) (LD (CJ s x).2):=by
 obtain⟨hc,cz⟩:=Bool.and_eq_true_iff.1 hc;obtain⟨z1,z2,z3,z4,z5,z6,z7⟩:=AD hc;have e:=Ff hw;have hn:=Ik s;have hX:CJ s x=AY (Ae sWorth) (AV s) x:=by unfold CJ;rw[hw]
 rw[hX];refine(Agl AV BN BD DJ BN Dy Em J s x.k x.ca x.pi x.pc x.wo x.gv x.aa x.fv x.rr x.lr x.lp x.lpo x.lpn x.ld x.ba x.pa x.cl).trans ?_;rw[e];generalize hr:AV s=r at*
 have i0:(decide ((0:Int)<=0)&&decide ((0:Int)<(r.n:Int)))=true:=by simp only[A2,A3];omega
 have iF:(decide ((0:Int)<=(r.n:Int))&&decide ((r.n:Int)<=(r.n:Int)))=true:=by simp only[A2,A3];omega
 have i1:(decide ((0:Int)<=1)&&decide ((1:Int)<=(((r.n:Int).toNat:Nat):Int)))=true:=by simp only[A2,A3];omega
 refine Ak (by rw[A4 z1,hw];exact Bool.and_eq_true_iff.2 ⟨(beq_self_eq_true sSpc.toList:(sSpc.toList==sSpc.toList)=true),beq_self_eq_true _⟩) (Ak i0 ?_)
 repeat refine Ak i0 ?_
 refine Ak iF (Ak i1 (Ak cz ?_));have ht:w_ r 1 ((r.n:Int).toNat-1)=Bf r:=rfl;rw[ht];cases hB:Em (Bf r)
 ·rw[show AY (Ae sWorth) r x=(false,x) by unfold AY;rw[hB];rfl];exact Ak rfl rfl
 refine Dq rfl ?_;have hL:AY (Ae sWorth) r x=(true,{x with wo:=DU x.wo (Ad (Dy (Bf r)))}):=by unfold AY;rw[hB];rfl
 rw[hL];clear hL;exact Ak (A4 (by omega)) rfl
theorem gK{s:ByteArray}{x:Px}(hw:(AV s).S 0 0=sPiece)(hc:Rh s x=true)(J:Value->St->OD):inl (Cpi AV BN BD DJ BN Dy Em sPiece) 8 28 [bx1,.string s] {τ:=[bx0,bx1],saved:=[],mem:=GM x} (fun v σ=>J v (Cc [0,1] σ))=J (.bool (CJ s x).1) (LD (CJ s x).2):=by
 obtain⟨hc,cz⟩:=Bool.and_eq_true_iff.1 hc;obtain⟨z1,z2,z3,z4,z5,z6,z7⟩:=AD hc;have hQ:=Abz cz;have e:=Ff hw;have hn:=Ik s;have hX:CJ s x=AY (Ae sPiece) (AV s) x:=by unfold CJ;rw[hw]
 rw[hX];refine(Af8 AV BN BD DJ BN Dy Em J s x.k x.ca x.pi x.pc x.wo x.gv x.aa x.fv x.rr x.lr x.lp x.lpo x.lpn x.ld x.ba x.pa x.cl).trans ?_;rw[e];generalize hr:AV s=r at*
 have i0:(decide ((0:Int)<=0)&&decide ((0:Int)<(r.n:Int)))=true:=by simp only[A2,A3];omega
 have iF:(decide ((0:Int)<=(r.n:Int))&&decide ((r.n:Int)<=(r.n:Int)))=true:=by simp only[A2,A3];omega
 have i1:(decide ((0:Int)<=1)&&decide ((1:Int)<=(((r.n:Int).toNat:Nat):Int)))=true:=by simp only[A2,A3];omega
 refine Ak (by rw[A4 z1,hw];exact Bool.and_eq_true_iff.2 ⟨(beq_self_eq_true sSpc.toList:(sSpc.toList==sSpc.toList)=true),beq_self_eq_true _⟩) (Ak i0 ?_)
 repeat refine Ak i0 ?_
 refine Ak iF (Ak i1 (Ak cz ?_));have ht:w_ r 1 ((r.n:Int).toNat-1)=Bf r:=rfl;rw[ht];cases hB:Em (Bf r)
 ·rw[show AY (Ae sPiece) r x=(false,x) by unfold AY;rw[hB];rfl];exact Ak rfl rfl
 refine Dq rfl ?_;have hL:AY (Ae sPiece) r x=(evB (Dy (Bf r)).n,{x with pi:=DU x.pi (Ad (Gi (Dy (Bf r))))}):=by unfold AY;rw[hB];rfl
 rw[hL];clear hL;refine Ak (c_lrr_iff.2 ⟨rfl,rfl,rfl,rfl,rfl,rfl,rfl,rfl,rfl,hQ,rfl⟩) ?_;exact Ak (A4 (show x.pi.n+1<=10000000000 by omega)) rfl
end Go.Proofs.YtnljjjghpgdmoaaGreatDoor

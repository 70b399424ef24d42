/- Check, Text and Parse of documents return what the reference returns (PrintTexts). No conditions. -/
import Derived.Test.YtnljjjghpgdmoaaGreatDoorXar
import Derived.Test.YtnljjjghpgdmoaaGreatDoorTie
import Derived.Test.YtnljjjghpgdmoaaGreatDoorCards
import Derived.Lib.LaidU8
import Derived.Lib.LaidTab
import Derived.LaidLaws
import Derived.Handed
set_option linter.all false
namespace Go.Proofs.YtnljjjghpgdmoaaGreatDoor
open Go.Ev Go.Lib Go.RowKit
def Xw{word:Y_}{x:Nat->Nat->Int}{k:Nat->Nat}{f:Nat->List UInt8}:∀n,(∀e,e<n->Ad word++BI (x e) (k e)++[10]=f e)->EI word x k n=Qp f n
 |0,_=>rfl
 |n+1,h=>by
  show EI word x k n++_=Qp f n++f n;rw[Xw n fun e he=>h e o_,h n o_]
def Xj{word:Y_}{x:Nat->Nat->Int×Int}{k:Nat->Nat}{f:Nat->List UInt8}:∀n,(∀e,e<n->Ad word++FO (x e) (k e)++[10]=f e)->Kv word x k n=Qp f n
 |0,_=>rfl
 |n+1,h=>by
  show Kv word x k n++_=Qp f n++f n;rw[Xj n fun e he=>h e o_,h n o_]
def xP(r:Row):BI (IL r) r.n=W9 r:=Eu _ fun j hj=>Ja hj
def UV{word:Y_}{x y:Nat->Nat->Int}{k:Nat->Nat}:∀n,(∀e,e<n->∀j,j<k e->x e j=y e j)->EI word x k n=EI word y k n
 |0,_=>rfl
 |n+1,h=>by
  show EI word x k n++(Ad word++BI (x n) (k n)++[10])=EI word y k n++(Ad word++BI (y n) (k n)++[10]);rw[UV n fun e he=>h e o_,Eu (k n) (h n o_)]
def Aeq(r:Row):EI sValues (YS r) (fun e=>(r.R e 0).n) r.n=vaL r:=UV _ fun e he j hj=>VE he hj
def Ana(r:Row):EI sCake (fun e=>J4 (IL r e) (r.R e 1).n (xO r 1 e) (xO r 2 e)) (fun e=>1+(r.R e 1).n+(r.R e 2).n) r.n=Qp (Tt r) r.n:=Xw _ fun e he=>by
 unfold Tt;rw[Tf,Tf,Ja he,Eu (r.R e 1).n fun j hj=>Zf he hj,Eu (r.R e 2).n fun j hj=>Zf he hj]
def YA{S:Nat->Nat->Int}{t:Row}:∀n,(∀i,i<n->∀c,c<4->S i c=t.I i c)->FO (Jl S) (2*n)=UZ t n
 |0,_=>rfl
 |n+1,h=>by
  have h0:=h n o_;have e0:Jl S (2*n)=(t.I n 0,t.I n 1):=by unfold Jl;rw[AM o_,show 2*n/2=n by omega,h0 0 d_,h0 1 d_]
  have e1:Jl S (2*n+1)=(t.I n 2,t.I n 3):=by unfold Jl;rw[AL o_,show(2*n+1)/2=n by omega,h0 2 d_,h0 3 d_]
  show(FO (Jl S) (2*n)++(32::N8 (Jl S (2*n))))++(32::N8 (Jl S (2*n+1)))=UZ t n++(([]++(32::N8 (t.I n 0,t.I n 1)))++(32::N8 (t.I n 2,t.I n 3)));rw[YA n fun i hi=>h i o_,e0,e1,List.nil_append,List.append_assoc]
def Aob(r:Row):Kv sPiece (fun e=>Jl (sO r e)) (fun e=>2*(r.R e 0).n) r.n=Qp (aP r) r.n:=Xj _ fun e he=>by
 unfold aP;rw[YA (r.R e 0).n fun i hi c hc=>Apm he hi hc]
def Ank(r:Row):Kv sWorth (qO r) (fun e=>(r.R e 0).n) r.n=Qp (woL r) r.n:=Xj _ fun e he=>by
 unfold woL;rw[Ua (r.R e 0).n fun j hj=>Aoj he hj]
def Aoo(r:Row):EI sPay (pOf r) (fun _=>3) r.n=Qp (paL r) r.n:=Xw _ fun e he=>by
 unfold paL;rw[Eu 3 fun j hj=>jI he hj]
def zV(ld:Int)(r:Row):BI (bG ld (IL r)) (1+r.n)=(32::itoa ld)++W9 r:=by
 rw[NQ,Eu r.n (y:=fun j=>r.I j 0) fun j hj=>by
  unfold bG;rw[AL o_,show 1+j-1=j by omega,Ja hj]]
 rfl
def Ai1{x:Dc}(h:ckE vB x=0):PU x=GZ x:=by
 have v:=SN h;unfold PU;rcases v.k with e|e|e|e
 ·have h0:=v.c0 e;have et:GZ x=ckT x:=by unfold GZ;rw[e];rfl
  have ew:Qj x=wrC x:=by unfold Qj;rw[e];rfl
  rw[et,ew,show(bif x.k==1 then x.pc else x.cl)=x.cl+x.pc by rw[e,h0];simp];unfold ckT xW dvT wrC;rw[Ana,Aob,Ank];simp only[List.append_assoc]
 ·obtain⟨e1,e2,e3,e4⟩:=Air (Aql e v.ot).1;have et:GZ x=gdT x:=by unfold GZ;rw[e];rfl
  have ew:Qj x=wrG x:=by unfold Qj;rw[e];rfl
  rw[et,ew,show(bif x.k==1 then x.pc else x.cl)=x.cl+x.pc by rw[e,e4];simp];unfold gdT goT wrG;rw[Aeq,xP]
 ·obtain⟨e1,e2,e3,e4⟩:=Air (Ark e v.ot).1;have et:GZ x=rnT x:=by unfold GZ;rw[e];rfl
  have ew:Qj x=wrR x:=by unfold Qj;rw[e];rfl
  rw[et,ew,show(bif x.k==1 then x.pc else x.cl)=x.cl+x.pc by rw[e,e4];simp];unfold rnT yB wrR;rw[Aeq,xP,zV];simp only[List.append_assoc];rfl
 ·obtain⟨e1,e2,e3,e4⟩:=Air (Ar7 e v.ot).1;have et:GZ x=stT x:=by unfold GZ;rw[e];rfl
  have ew:Qj x=wrS x:=by unfold Qj;rw[e];rfl
  rw[et,ew,show(bif x.k==1 then x.pc else x.cl)=x.cl+x.pc by rw[e,e4];simp];unfold stT gW wrS;rw[Aoo,xP]
def Gi{n:Int}(h:nB n):dR n=true:=dR_iff.2 ⟨by have:=h.1;omega,by have:=h.2;omega⟩
def Ak6{x:Dc}(hx:DcOk x)(h:ckE vB x=0):iP x:=by
 have b:=Aef h;refine⟨fun e=>⟨⟨hx.ca.1,fun i hi=>?_⟩,⟨hx.pi.1,fun i hi=>⟨(hx.pi.2 i hi).1,fun j hj c hc=>F5 ((hx.pi.2 i hi).2 j hj c hc)⟩⟩,⟨hx.wo.1,fun i hi=>⟨(hx.wo.2 i hi).1,fun j hj c hc=>F5 ((hx.wo.2 i hi).2 j hj c hc)⟩⟩⟩,fun e=>?_,fun e=>?_,fun e=>?_⟩
 ·obtain⟨g1,g2,g3⟩:=b.c e i hi;exact⟨Gi g1,⟨(hx.ca.2 i hi).2.1.1,fun j hj=>Gi (g2 j hj)⟩,⟨(hx.ca.2 i hi).2.2.1,fun j hj=>Gi (g3 j hj)⟩⟩
 ·obtain⟨g1,g2⟩:=b.g e;exact⟨⟨hx.gv.1,fun i hi=>⟨(hx.gv.2 i hi).1,fun j hj=>Gi (g1 i hi j hj)⟩⟩,⟨hx.aa.1,fun j hj=>Gi (g2 j hj)⟩⟩
 ·obtain⟨g1,g2,g3,g4,g5⟩:=b.r e;exact⟨Gi g1,⟨hx.fv.1,fun i hi=>⟨(hx.fv.2 i hi).1,fun j hj=>Gi (g2 i hi j hj)⟩⟩,⟨hx.lr.1,fun j hj=>Gi (g3 j hj)⟩,Gi g4,⟨hx.lp.1,fun j hj=>Gi (g5 j hj)⟩⟩
 ·obtain⟨g1,g2⟩:=b.s e;exact⟨⟨hx.ba.1,fun j hj=>Gi (g1 j hj)⟩,hx.pa.1,fun i hi=>⟨Gi (g2 i hi 0 d_),Gi (g2 i hi 1 d_),Gi (g2 i hi 2 d_)⟩⟩
set_option maxRecDepth 100000
def zpL(s:Y_)(li:Row)(k:Int):A_lpz:=(decide (li.n=li.n∧(1:Int)=1),s,li,Zn k)
def zpR(s:Y_)(li:Row)(k:Int):Bool×Nat×Px:=Bf (aF li) (Xr li) (li.n-1) 0 (Zn k)
def zpT(tc:Dc->Bool)(tS:Dc->Y_)(tE:Dc->Int)(s:Y_)(X:Bool×Nat×Px)(c:Bool):OD:=br c (br X.1 (some zR) (br (tc (EG X.2.2)) (br (tE (EG X.2.2) !=0) (some zR) (br (!(tS (EG X.2.2)).toList==s.toList) (some zR) (some [(EG X.2.2).D,.v (i64 0)]))) none)) none
def zpK(tc:Dc->Bool)(tS:Dc->Y_)(tE:Dc->Int)(s:Y_)(li:Row)(k:Int):OD:=zpT tc tS tE s (zpR s li k) (lpz.cnd (zpL s li k))
def dS0:Y_:=⟨⟨[100,111,99,117,109,101,110,116,32,99,97,107,101]⟩⟩
def dS1:Y_:=⟨⟨[100,111,99,117,109,101,110,116,32,103,111,111,100,115]⟩⟩
def dS2:Y_:=⟨⟨[100,111,99,117,109,101,110,116,32,114,101,110,116]⟩⟩
def dS3:Y_:=⟨⟨[100,111,99,117,109,101,110,116,32,115,101,116,116,108,101]⟩⟩
def zpH(tc:Dc->Bool)(tS:Dc->Y_)(tE:Dc->Int)(s:Y_)(li:Row)(h:List UInt8):OD:=br (h==dS0.toList) (zpK tc tS tE s li 1) (br (h==dS1.toList) (zpK tc tS tE s li 2) (br (h==dS2.toList) (zpK tc tS tE s li 3) (br (h==dS3.toList) (zpK tc tS tE s li 4) (zpK tc tS tE s li 0))))
def zpG(tc:Dc->Bool)(tS:Dc->Y_)(tE:Dc->Int)(s:Y_)(cR:Y_->Int->Row)(w:Int):OD:=br (decide (0<=w)&&decide (w<(s.size:Int))) (br ((((s.data.getD w.toNat 0).toNat:Nat):Int) !=10) (some zR) (br (decide (0<=w)&&decide (w<=(s.size:Int))) (br (decide ((s.extract 0 w.toNat).size<=1000000)) (br (decide ((0:Int)<=0)&&decide (0<((cR (s.extract 0 w.toNat) 10).n:Int))) (zpH tc tS tE s (cR (s.extract 0 w.toNat) 10) ((cR (s.extract 0 w.toNat) 10).S 0 0).toList) none) none) none)) none
def uPz(cR:Y_->Int->Row)(qc:Row->Px->Bool)(qx:List UInt8->Row->Px->Bool×Px)(tc:Dc->Bool)(tS:Dc->Y_)(tE:Dc->Int)(s:Y_):BH (Cpz [lpz.C] cR qc qx tc tS tE) 6 9 [.v (.string s)]=br ((s.size:Int)>60000) (some zR) (br ((s.size:Int)==0) (some zR) (zpG tc tS tE s cR (IntKind.i64.wrap ((s.size:Int)-1)))):=k_
def TB(x:Dc):Bool:=rtC x&&((fQ x==DY x)&&((nM x).toList==(NI x).toList))
def gV:DenW Tryz.prog Wd 7 (LW TB NI DY):=den_rtx.less fun ds rs h=>by
 unfold LW at h;split at h
 ·split at h
  ·rename_i x hx;simp only[A5,A6]at h;obtain⟨hc,rfl⟩:=h;unfold TB at hc;simp only[A2]at hc;obtain⟨c1,c2,c3⟩:=hc;have e1:fQ x=DY x:=by simpa using c2
   have e2:nM x=NI x:=Bz _ _|>.1 c3;unfold LW;simp only[hx];rw[c1,e1,e2]
  ·cases h
 ·cases h
noncomputable def CzX:Cx:=Cpz [lpz.C] Sc.cutR QO BD TB NI DY
def Ajk:LH CzX Wd:=Pm enter mixed (fun p h=>by
 simp only[A8,A7,or_false]at h;rcases h with rfl|rfl
 ·refine(Sc.den_cutR.at Wd).less fun ds rs h=>?_;replace h:Agq Sc.cutR ds=some (true,rs):=h;unfold Agq at h;split at h
  ·exact h
  ·cases h
 ·exact gV) (Aw (Aj1 ..) AX) AX (Aw Ak9 AX)
def ypC(s:Y_):Bool:=VQ s||(ypS s||TB (EG (UJ s)))
def pM(s:Y_):Dc:=bif ypK s then EG (UJ s)else dZ
def yM(s:Y_):Int:=bif ypK s then 0 else 12
def Ard:dS0=BM 0:=k_
def Arn:dS1=BM 1:=k_
def Aq9:dS2=BM 2:=k_
def Art:dS3=BM 3:=k_
def Aqb:((BM 0).toList==(BM 1).toList)=false:=k_
def Arh:((BM 0).toList==(BM 2).toList)=false:=k_
def Arq:((BM 0).toList==(BM 3).toList)=false:=k_
def Ar6:((BM 1).toList==(BM 2).toList)=false:=k_
def Aqk:((BM 1).toList==(BM 3).toList)=false:=k_
def Aqf:((BM 2).toList==(BM 3).toList)=false:=k_
def Aot{tc:Dc->Bool}{tS:Dc->Y_}{tE:Dc->Int}{s:Y_}{li:Row}(hd:Y_):zpH tc tS tE s li hd.toList=zpK tc tS tE s li (EH hd):=by
 have e:EH hd=bif hd.toList==(BM 3).toList then 4 else bif hd.toList==(BM 2).toList then 3 else bif hd.toList==(BM 1).toList then 2 else bif hd.toList==(BM 0).toList then 1 else 0:=rfl;rw[e];unfold zpH;rw[Ard,Arn,Aq9,Art];cases h0:hd.toList==(BM 0).toList
 ·cases h1:hd.toList==(BM 1).toList
  ·cases h2:hd.toList==(BM 2).toList
   ·cases h3:hd.toList==(BM 3).toList<;>rfl
   ·have q:hd=BM 2:=Bz _ _|>.1 h2;subst q;rw[Aqf];rfl
  ·have q:hd=BM 1:=Bz _ _|>.1 h1;subst q;rw[Ar6,Aqk];rfl
 ·have q:hd=BM 0:=Bz _ _|>.1 h0;subst q;rw[Aqb,Arh,Arq];rfl
def ext_size(s:Y_)(n:Nat):(s.extract 0 n).size<=s.size:=by
 have h:(Ad (s.extract 0 n)).length=(s.extract 0 n).size:=rfl;rw[<-h,Sc.by_ext,List.drop_zero,List.length_take];exact Nat.min_le_right ..
def Ap8{s:Y_}(hs:s.size<=60000):0<(zL s).n∧(zL s).n<=60001∧∀i,i<(zL s).n->((zL s).S i 0).size<=60000:=by
 obtain⟨p,ps,e1,e2,e3⟩:=IX 10 (Ad (s.extract 0 (s.size-1)));obtain⟨h1,h2⟩:=Y1 ((Sc.cut_pieces (s.extract 0 (s.size-1)) 10).trans e1);obtain⟨l1,l2⟩:=pieces_len 10 (Ad (s.extract 0 (s.size-1)));have hz:(Ad (s.extract 0 (s.size-1))).length<=60000:=Nat.le_trans (ext_size s (s.size-1)) hs;rw[e1]at l1 l2;have hn:(zL s).n=(p::ps).length:=h1;refine⟨by rw[hn];simp,o_,fun i hi=>?_⟩;rw[hn]at hi;have e:(zL s).S i 0=txt (p::ps)[i]:=h2 i hi;rw[e,txt_size];exact Nat.le_trans (l2 _ (List.getElem_mem hi)) hz
def Al3:DenW Tryz.prog Wd 9 (Zr ypC pM yM):=CO Ajk fun ds rs h=>by
 unfold Zr at h;split at h
 ·rename_i s;simp only[A5,A6]at h;obtain⟨h0,rfl⟩:=h;refine(uPz Sc.cutR QO BD TB NI DY s).trans ?_;have bad:VQ s=true->some zR=some [(pM s).D,.v (i64 (yM s))]:=fun hg=>by
   unfold pM yM ypK;rw[hg];rfl
  by_cases hs:60000<s.size
  ·rw[A4 (show(s.size:Int)>60000 by omega),Aa];exact bad (by unfold VQ;rw[A4 hs];rfl)
  rw[AB (show¬(s.size:Int)>60000 by omega),Ac];by_cases hz:s.size=0
  ·rw[show((s.size:Int)==0)=true by rw[hz];rfl,Aa];exact bad (by unfold VQ;rw[A4 hz];simp)
  rw[show((s.size:Int)==0)=false from beq_eq_false_iff_ne.2 o_,Ac];have hw:IntKind.i64.wrap ((s.size:Int)-1)=((s.size-1:Nat):Int):=by rw[wrap64 o_ o_];omega
  rw[hw];unfold zpG;rw[A9];refine Aq (by simp only[A2,A3];omega) ?_;by_cases hb:s.data.getD (s.size-1) 0=10
  rotate_left
  ·refine Aq ?_ (bad ?_)
   ·have:(s.data.getD (s.size-1) 0).toNat≠10:=fun q=>hb (UInt8.toNat_inj.1 q);simp only[bne_iff_ne,ne_eq];omega
   ·unfold VQ;rw[show(s.data.getD (s.size-1) 0 !=10)=true by simpa using hb];simp
  have hg:VQ s=false:=by
   unfold VQ;rw[hb,AB hs,AB hz];rfl
  obtain⟨z1,z2,z3⟩:=Ap8 (s:=s) o_;have hx:=ext_size s (s.size-1);refine BC (by rw[hb];rfl) (Aq (by simp only[A2,A3];omega) (Aq (A4 o_) ?_));refine Aq (c:=decide ((0:Int)<=0)&&decide (0<((zL s).n:Int))) (by simp only[A2,A3];omega) ?_;refine(Aot ((zL s).S 0 0)).trans ?_;show zpT TB NI DY s (ypR s) (lpz.cnd (zpL s (zL s) (EH ((zL s).S 0 0))))=_;have c3:lpz.cnd (zpL s (zL s) (EH ((zL s).S 0 0)))=true:=Bool.and_eq_true_iff.2 ⟨A4 ⟨rfl,rfl⟩,A4 ⟨by show(zL s).n<=1000000;omega,fun i hi=>Nat.le_trans (z3 i hi) d_,AC _,AC _,AC _,AC _,AC _,AC _⟩⟩;unfold zpT;rw[c3,Aa];unfold ypC at h0;rw[hg,Bool.false_or]at h0;unfold pM yM ypK;rw[hg];show br (ypS s) _ (br (TB (EG (UJ s))) (br (DY (EG (UJ s)) !=0) _ (br (!(NI (EG (UJ s))).toList==s.toList) _ (some [(EG (UJ s)).D,.v (i64 0)]))) none)=_;cases h1:ypS s
  ·rw[h1,Bool.false_or]at h0;rw[Ac,h0,Aa];by_cases he:DY (EG (UJ s))=0
   ·rw[show(DY (EG (UJ s)) !=0)=false by rw[he];rfl,show(DY (EG (UJ s))==0)=true by rw[he];rfl,Ac];cases(NI (EG (UJ s))).toList==s.toList<;>rfl
   ·rw[show(DY (EG (UJ s)) !=0)=true by simpa using he,show(DY (EG (UJ s))==0)=false by simpa using he,Aa];rfl
  ·rw[Aa];rfl
 ·cases h
def wY{x:Dc}(h:DcOk x):rkC x=true:=by
 have a:ND (Ae x.ca) (Ae x.pi)=true:=by
  refine A4 ⟨h.ca.1,fun i hi=>⟨(h.ca.2 i hi).2.1.1,(h.ca.2 i hi).2.2.1⟩,h.pi.1,fun i hi=>⟨(h.pi.2 i hi).1,fun k hk=>?_⟩⟩;have g:=(h.pi.2 i hi).2 k hk;show(Rt.iR ((x.pi.R i 0).I k 0)&&Rt.iR ((x.pi.R i 0).I k 1)&&Rt.iR ((x.pi.R i 0).I k 2)&&Rt.iR ((x.pi.R i 0).I k 3))=true;rw[F5 (g 0 d_),F5 (g 1 d_),F5 (g 2 d_),F5 (g 3 d_)];rfl
 have b:aX (Ae x.wo) x.ca.n=true:=by
  refine A4 ⟨h.wo.1,fun i hi=>⟨(h.wo.2 i hi).1,fun k hk=>?_⟩⟩;have g:=(h.wo.2 i hi).2 k hk;show(Rt.iR ((x.wo.R i 0).I k 0)&&Rt.iR ((x.wo.R i 0).I k 1))=true;rw[F5 (g 0 d_),F5 (g 1 d_)];rfl
 have h2:decide (x.gv.n<=1000000∧x.aa.n<=1000000)=true:=A4 ⟨h.gv.1,h.aa.1⟩;have ha:GR (Ae x.fv)=true:=A4 ⟨h.fv.1,fun i hi=>(h.fv.2 i hi).1⟩;have hb:GR (Ae (Ae x.fv))=true:=ha;have h3:(Ho (Ae x.fv) x.rr&&Lu (JV (fun a _=>decide (a.n<=1000000))) (Ae x.fv) x.rr (Ae x.lr) (Ae x.lp) x.ld)=true:=by
  show(GR (Ae x.fv)&&(GR (Ae x.fv)&&(GR (Ae (Ae x.fv))&&decide ((Ae (Ae (Ae x.lr))).n<=1000000))&&decide ((Ae x.lp).n<=1000000)))=true;rw[ha,hb,A4 (show(Ae (Ae (Ae x.lr))).n<=1000000 from h.lr.1),A4 (show(Ae x.lp).n<=1000000 from h.lp.1)];rfl
 unfold rkC;rw[a,b,h2,h3];cases Pg x<;>cases x.k==1<;>cases x.k==2<;>cases x.k==3<;>rfl
def zA{x:Dc}:(O6 x≠0->fQ x=DY x∧nM x=NI x):=fun h=>by
 have hb:(ckE vB (Bd x) !=0)=true:=bne_iff_ne.2 h;have e1:fQ x=JG (ckE vB (Bd x)) (PU (Bd x)):=rfl;have e2:DY x=JG (ckE vB (Bd x)) (GZ (Bd x)):=rfl;have e3:nM x=JJ (ckE vB (Bd x)) (PU (Bd x)):=rfl;have e4:NI x=JJ (ckE vB (Bd x)) (GZ (Bd x)):=rfl;rw[e1,e2,e3,e4];unfold JG JJ;rw[hb];exact⟨rfl,rfl⟩
def rt_eq(x:Dc):fQ x=DY x∧nM x=NI x:=by
 by_cases h:O6 x=0
 ·have e:PU (Bd x)=GZ (Bd x):=Ai1 h;have e1:fQ x=JG (ckE vB (Bd x)) (PU (Bd x)):=rfl;have e2:DY x=JG (ckE vB (Bd x)) (GZ (Bd x)):=rfl;have e3:nM x=JJ (ckE vB (Bd x)) (PU (Bd x)):=rfl;have e4:NI x=JJ (ckE vB (Bd x)) (GZ (Bd x)):=rfl;rw[e1,e2,e3,e4,e];exact⟨rfl,rfl⟩
 ·exact zA h
def dA{x:Dc}(h:DcOk x):rtC x=true:=by
 have h2:=h.al (AlDc.can x);unfold rtC aY;rw[wY h2,Bool.true_and];by_cases e:O6 x=0
 ·rw[A4 (show iP (Bd x)∧ClC x from⟨Ak6 h2 e,h.pc.1,h.pc.2,h.cl.1,h.cl.2⟩)];simp
 ·rw[show(O6 x !=0)=true by simpa using e];rfl
def Ac3{x:Dc}(h:DcOk x):TB x=true:=by
 obtain⟨e1,e2⟩:=rt_eq x;unfold TB;rw[dA h,e1,e2];simp
def Agd{s:Y_}(hs:s.size<=60000):ypC s=true:=by
 unfold ypC;cases hg:VQ s
 ·cases hS:ypS s
  ·rw[(yx hg hS).2.symm,Ac3 (Tu hs)];rfl
  ·rfl
 ·rfl
noncomputable def CTt(gc gB tc:Dc->Bool)(tS:Dc->Y_)(tE:Dc->Int)(rc:Dc->Bool)(rS:Dc->Y_)(rE:Dc->Int)(pc:Y_->Bool)(pd:Y_->Dc)(pe:Y_->Int)(qc:Y_->Bool)(qd:Y_->Dc)(qe:Y_->Int)(cc:Dc->Bool)(ce:Dc->Int)(dc:Dc->Bool)(de:Dc->Int)(sc:Dc->Dc->Bool):Cx:=AP Tryz.prog fns [(5,Aqx gc gB),(6,LW tc tS tE),(7,LW rc rS rE),(8,Zr pc pd pe),(9,Zr qc qd qe),(10,Wu cc ce),(11,Wu dc de),(12,Ar4 sc)] []
def coT(gc gB tc:Dc->Bool)(tS:Dc->Y_)(tE:Dc->Int)(rc:Dc->Bool)(rS:Dc->Y_)(rE:Dc->Int)(pc:Y_->Bool)(pd:Y_->Dc)(pe:Y_->Int)(qc:Y_->Bool)(qd:Y_->Dc)(qe:Y_->Int)(cc:Dc->Bool)(ce:Dc->Int)(dc:Dc->Bool)(de:Dc->Int)(sc:Dc->Dc->Bool)(x:Dc)(s:Y_):OD:=br (tc x) (br (rc x) (br (pc s) (br (qc s) (br (cc x) (br (dc x) (br (ce x==de x) (br ((tS x).toList==(rS x).toList) (br (tE x==rE x) (br (sc (wD (pd s)) (wD (qd s))) (some [.v (.bool (pe s==qe s))]) none) fF) fF) fF) none) none) none) none) none) none
def uT(gc gB tc:Dc->Bool)(tS:Dc->Y_)(tE:Dc->Int)(rc:Dc->Bool)(rS:Dc->Y_)(rE:Dc->Int)(pc:Y_->Bool)(pd:Y_->Dc)(pe:Y_->Int)(qc:Y_->Bool)(qd:Y_->Dc)(qe:Y_->Int)(cc:Dc->Bool)(ce:Dc->Int)(dc:Dc->Bool)(de:Dc->Int)(sc:Dc->Dc->Bool)(x:Dc)(s:Y_):BH (CTt gc gB tc tS tE rc rS rE pc pd pe qc qd qe cc ce dc de sc) 6 3 [x.D,.v (.string s)]=br (gc (wD x)) (br (gB (wD x)) tT (br ((s.size:Int)>5000) (br ((s.size:Int)<=60000) tT (br ((s.size:Int)>61000) tT (coT gc gB tc tS tE rc rS rE pc pd pe qc qd qe cc ce dc de sc (wD x) s))) (br ((s.size:Int)>61000) tT (coT gc gB tc tS tE rc rS rE pc pd pe qc qd qe cc ce dc de sc (wD x) s)))) none:=k_
noncomputable def CTX:Cx:=CTt grC grX uC NI DY rtC nM fQ yJ TD xpE ypC pM yM jE O6 aY O6 smB
def Ai7:LH CTX Wd:=by
 unfold CTX CTt;exact BA enter mixed (Aw (den_grX.at _)<|Aw Yx<|Aw den_rtx<|Aw Aak<|Aw Al3<|Aw Aau<|Aw YR<|Aw (den_smX.at _) AX) AX
def Acp(s:Y_):yJ s=true:=by
 by_cases hs:60000<s.size
 ·unfold yJ;rw[A4 hs];rfl
 ·exact Aip o_
def yU(s:Y_):ypC s=true:=by
 by_cases hs:60000<s.size
 ·unfold ypC VQ;rw[A4 hs];rfl
 ·exact Agd o_
def Yc{d:Dc}(ho:DcOk d):smB (wD d) (wD d)=true:=
 A4 (Ajy ((AlDc.wD d).trans (AlDc.wD d).symm) (ho.al (AlDc.wD d).symm))
def Ao2:DcOk dZ:=by
 have a:NumsOk .nil:=⟨Nat.zero_le _,fun j hj=>absurd hj (Nat.not_lt_zero _)⟩;have z:(0:Int)<=0∧(0:Int)<=255:=d_;have b:∀m,RowsOk m .nil:=fun m=>⟨Nat.zero_le _,fun j hj=>absurd hj (Nat.not_lt_zero _)⟩;exact{ca:=⟨Nat.zero_le _,fun j hj=>absurd hj (Nat.not_lt_zero _)⟩,pi:=b 4,wo:=b 2,gv:=b 1,aa:=a,fv:=b 1,lr:=a,lp:=a,ba:=a,pa:=⟨Nat.zero_le _,fun j hj=>absurd hj (Nat.not_lt_zero _)⟩,rr:=Zc,ld:=Zc,pc:=z,cl:=z}
def Aa7(s:Y_):pM s=TD s∧yM s=xpE s∧smB (wD (TD s)) (wD (pM s))=true:=by
 obtain⟨h1,h2⟩:=Anw s;have e1:pM s=TD s:=by
  unfold pM TD;rw[h1];cases h:UU s
  ·rfl
  ·rw[h2 h]
 refine⟨e1,by unfold yM xpE;rw[h1],?_⟩;rw[e1];unfold TD;cases h:UU s
 ·exact Yc Ao2
 ·have hz:¬60000<s.size:=by
   unfold UU at h;simp only[A2,Bool.not_eq_true',decide_eq_false_iff_not]at h;exact h.1
  exact Yc (Tu o_)
def Apl{x:Dc}(ho:DcOk x)(s:Y_):coT grC grX uC NI DY rtC nM fQ yJ TD xpE ypC pM yM jE O6 aY O6 smB x s=tT:=by
 have hc:jE x=true:=kS (ho.al (AlDc.can _));have hr:aY x=true:=wY (ho.al (AlDc.can _));obtain⟨t1,t2⟩:=rt_eq x;obtain⟨d1,d2,d3⟩:=Aa7 s;unfold coT;rw[dE ho,dA ho,Acp,yU,hc,hr,t1,t2,d2,d3,beq_self_eq_true (O6 x),beq_self_eq_true (NI x).toList,beq_self_eq_true (DY x),beq_self_eq_true (xpE s)];rfl
def ZU{x:Dc}(hw:WfX x)(s:Y_):BH CTX 6 3 [x.D,.v (.string s)]=some [.v (.bool true)]:=by
 refine(uT grC grX uC NI DY rtC nM fQ yJ TD xpE ypC pM yM jE O6 aY O6 smB x s).trans ?_;have hww:=hw.wD;have hg:grC (wD x)=true:=A4 ⟨Agk hww.ca,Agk hww.pi,Agk hww.wo⟩;rw[hg,Aa];cases hG:grX (wD x)with
 |true=>rfl
 |false=>
  rw[Ac,Apl (lM hww hG) s];cases decide ((s.size:Int)>5000)<;>cases decide ((s.size:Int)<=60000)<;>cases decide ((s.size:Int)>61000)<;>rfl
end Go.Proofs.YtnljjjghpgdmoaaGreatDoor
namespace Go.Proofs.YtnljjjghpgdmoaaGreatDoor
open Go.ChangeShapes Go.Ev Go.RowKit Go.WideShapes
set_option maxRecDepth 100000
theorem own:ownKnob Tryz.prog.godebug=none:=by kernel_rfl
theorem laidOut:laidOutB Tryz.prog=true:=by kernel_rfl
theorem Qa{H:Type}{enc:TypeId×Value->H}{P:Program}{w:World}{base:Nat}{sp:Nat->Bool}{held:Bool}{fuel:Nat}{t e:TypeId}{n:Nat}{k:IntKind}{cs:List Value}{zs:List Int}{p:List MemPlace}
  (ht:P.underlying t=some (.array n e)) (he:P.underlying e=some (.int k)) (hc:P.cellsOf e=1) (h:DataW.trod enc P w base sp held fuel t cs=some (.agg (zs.map fun z=>.lit (.int k z)),p)) (i:Nat) (z:Int) (hz:zs[i]? =some z):cs[i]? =some (.int k z):=by
 obtain⟨xs,m,rfl,hx,hl,hxl,hall⟩:=DataW.trod_array ht h;have hxs:xs.map (·.1)=zs.map fun z=>(DataW.lit (.int k z):DataW H):=by
  have:=congrArg Prod.fst hx;simpa using this.symm
 have hzl:zs.length=n:=by
  have:=congrArg List.length hxs;simp at this;omega
 have hi:i<n:=by
  have:=(A0.1 hz).1;omega
 have h1:=hall i hi;obtain⟨b,hb⟩:∃b,xs[i]? =some b:=⟨xs[i]'o_,AK o_⟩;rw[hb,hc,Nat.mul_one]at h1;obtain⟨y,hcz,hy,_⟩:=DataW.trod_int he h1;have h2:cs[i]? =some (.int k y):=by
  have:=congrArg (·[0]?) hcz;simpa [List.getElem?_take,List.getElem?_drop]using this
 have h3:(xs.map (·.1))[i]? =some (DataW.lit (.int k z):DataW H):=by rw[hxs];simp[hz]
 rw[h2];have h4:(xs.map (·.1))[i]? =some b.1:=by simp[hb]
 rw[h4]at h3;have h5:=Option.some.inj h3;obtain⟨b1,b2⟩:=b;simp only[A6]at hy;have h6:(DataW.lit (Lit.int k y):DataW H)=DataW.lit (Lit.int k z):=hy.1.symm.trans h5;simp only[DataW.lit.injEq,Lit.int.injEq,true_and]at h6;rw[h6]
def Uh:List (String×DataW Unit):=[("math/bits.deBruijn32tab",Rows.laid_math_bits_deBruijn32tab),("math/bits.deBruijn64tab",Rows.laid_math_bits_deBruijn64tab),("internal/strconv.uint64pow10",Rows.laid_internal_strconv_uint64pow10),("unicode/utf8.acceptRanges",Rows.laid_unicode_utf8_acceptRanges),("strconv.ErrRange",Rows.laid_strconv_ErrRange),("strconv.ErrSyntax",Rows.laid_strconv_ErrSyntax),("unicode/utf8.first",Rows.laid_unicode_utf8_first)]
def Xt(w:World):Prop:=laidMet Tryz.prog Uh w
theorem PD{w:World}{n nm:String}{d:DataW Unit}{g t:Nat}{ms:Array (String×TypeId)}(h:Lib.VarReads Tryz.prog w n (.iface nm d))(hg:Tryz.prog.globalNamed n=some g)(ht:(Tryz.prog.globals[g]?).map (·.type)=some t)(hi:Tryz.prog.underlying t=some (.interface ms)):
  ∃te pe,w.cell? ⟨g,0,none⟩=some (.iface te pe):=by
 obtain⟨g',t',⟨l⟩,fuel,p,hg',ht',hvar,hd⟩:=h;obtain rfl:=Option.some.inj (hg.symm.trans hg');obtain rfl:=Option.some.inj (ht.symm.trans ht');cases fuel with
 |zero=>simp[DataW.trod]at hd
 |succ fuel=>
  unfold DataW.trod at hd;rw[hi]at hd;cases l with
  |nil=>simp at hd
  |cons x r=>
   cases r with
   |cons y r=>cases x<;>simp at hd
   |nil=>
    cases x with
    |iface u v=>exact⟨u,v,by rw[World.var?_cell hg hvar 0];rfl⟩
    |_=>simp at hd
theorem Xt.tz{w:World}(h:Xt w):Ld.Wt w:=by
 obtain⟨g,t,cs,fuel,p,hg,ht,hvar,hd⟩:=Lib.laidMet.reads h (n:= "math/bits.deBruijn64tab") (d:=Rows.laid_math_bits_deBruijn64tab) (by simp[Uh]);obtain rfl:g=2:=Option.some.inj (hg.symm.trans (show Tryz.prog.globalNamed "math/bits.deBruijn64tab"=some 2 by kernel_rfl));obtain rfl:t=259:=Option.some.inj (ht.symm.trans (show(Tryz.prog.globals[2]?).map (·.type)=some 259 by kernel_rfl));have hdat:(Rows.laid_math_bits_deBruijn64tab:DataW Unit)=.agg ((Lib.deBruijn64tab.map fun(z:Nat)=>(z:Int)).map fun z=>.lit (.int .u8 z)):=by kernel_rfl
 rw[hdat]at hd;have hcell:∀j,j<Lib.deBruijn64tab.length->w.cell? ⟨2,j,none⟩=some (.int .u8 (Lib.deBruijn64tab.getD j 0)):=fun j hj=>by
  rw[World.var?_cell hg hvar j,<-Array.getElem?_toList];refine Qa Tryz.underlying259 (by kernel_rfl) (by kernel_rfl) hd j _ ?_;rw[List.getElem?_map,AK hj,List.getD_eq_getElem?_getD,AK hj];rfl
 refine⟨hcell,?_⟩;have h0:=hcell 0 d_;rcases Nat.lt_or_ge 2 w.heap.size with h|h
 ·exact h
 ·exfalso;unfold World.cell? at h0;rw[show w.heap[2]? =none from Array.getElem?_eq_none h]at h0;cases h0
theorem Xt.wt{w:World}(hs:w.ShapedOpen Tryz.prog)(h:Xt w):Wd w:=by
 refine⟨?_,h.tz,Go.Proofs.cell_of_shapedOpen_int (zero:= #[.int .i64 0]) (t:=3) hs (AD (by kernel_rfl)) (by kernel_rfl) rfl (by kernel_rfl) (by kernel_rfl) Tryz.underlying3,?_,?_⟩
 ·obtain⟨g,t,cs,fuel,p,hg,ht,hvar,hd⟩:=Lib.laidMet.reads h (n:= "internal/strconv.uint64pow10") (d:=Rows.laid_internal_strconv_uint64pow10) (by simp[Uh]);obtain rfl:g=3:=Option.some.inj (hg.symm.trans (show Tryz.prog.globalNamed "internal/strconv.uint64pow10"=some 3 by kernel_rfl));obtain rfl:t=261:=Option.some.inj (ht.symm.trans (show(Tryz.prog.globals[3]?).map (·.type)=some 261 by kernel_rfl));have hdat:(Rows.laid_internal_strconv_uint64pow10:DataW Unit)=Lib.tabData .u64 Lib.pow10Tab:=by kernel_rfl
  rw[hdat]at hd;have:=Lib.cells_of_tab (k:=.u64) (n:=20) (e:=189) (zs:=Lib.pow10Tab) Tryz.underlying261 (by kernel_rfl) (by kernel_rfl) (by kernel_rfl) hd;unfold Lib.TabIs;rw[hvar,<-this]
 ·exact PD (Lib.laidMet.reads h (n:= "strconv.ErrSyntax") (d:=Rows.laid_strconv_ErrSyntax) (by simp[Uh])) (g:=4) (t:=70) (by kernel_rfl) (by kernel_rfl) Tryz.underlying70
 ·exact PD (Lib.laidMet.reads h (n:= "strconv.ErrRange") (d:=Rows.laid_strconv_ErrRange) (by simp[Uh])) (g:=5) (t:=70) (by kernel_rfl) (by kernel_rfl) Tryz.underlying70
noncomputable def low:Nat:=(World.holding Tryz.prog default ⟨#[],#[],[]⟩).heap.size
def rngS:List UInt8:=[118,97,108,117,101,32,111,117,116,32,111,102,32,114,97,110,103,101]
def synS:List UInt8:=[105,110,118,97,108,105,100,32,115,121,110,116,97,120]
def accZ:List Nat:=[128,191,160,191,128,159,144,191,128,143]++List.replicate 22 0
noncomputable def putAt(h:Array Obj)(g:Nat)(cs:List Value):Array Obj:=h.modify g fun
 |.cells _ t frozen=>.cells ⟨cs⟩ t frozen
 |o=>o
noncomputable def tabWorld(os:Os):World:=
 let w0:=World.holding Tryz.prog os ⟨#[.cells #[str rngS] 279,.cells #[str synS] 279],#[],[]⟩
 {w0 with heap:=putAt (putAt (putAt (putAt (putAt (putAt (putAt w0.heap 1 (Lib.deBruijn32tab.map fun(z:Nat)=>Value.int .u8 z)) 2 (Lib.deBruijn64tab.map fun(z:Nat)=>Value.int .u8 z)) 3 (Lib.pow10Tab.map fun(z:Int)=>Value.int .u64 z)) 5 [.iface 277 (.pointer (some ⟨low,0,none⟩))]) 4 [.iface 277 (.pointer (some ⟨low+1,0,none⟩))]) 6 (Go.Pinned.utf8FirstZ.map fun(z:Nat)=>Value.int .u8 z)) 7 (accZ.map fun(z:Nat)=>Value.int .u8 z)}
theorem Aci(os:Os)(args:Array Value):Xt ((tabWorld os).forCall (fun _ _=>0) ⟨#[],args,[]⟩).memory:=
 laidMet_of_run' 8 (by kernel_rfl) (by kernel_rfl)
theorem Tj{C:Cx}{Wp:World->Prop}(hC:LH C Wp){K:Checked}(hP:C.P=K.prog){f d e:Nat}{fn:Func}{s:ChangeSpec}{t4:TypeId}{sh:List (Bool×List CK)}(own:ownKnob K.prog.godebug=none)(noInit:K.prog.inits.idxOf? f=none)(hfn:K.prog.funcs[f]? =some fn)(laid:laidOutB K.prog=true)
  (hall:(fn.params.toList.all fun t=>K.prog.readableRec t&&decide (t<K.prog.types.size))=true) (hres:fn.resultTypes= #[t4]) (h4:K.prog.underlying t4=some .bool) (hvars:s.vars=[])
  (hs:∀(H:Type)(ds:List (DataW H)),ds.length=fn.params.size->s.fn H ds={results:=[.lit (.bool true)],args:=ds}) (hsh:shapes K.prog d fn.params.toList=some sh)
  (hev:∀Ds,MO sh Ds->BH C e f Ds=some [.v (.bool true)])
  {conds:List PathCond} {os:Os} (started:os.Started) {H:Type} {enc:TypeId×Value->H} {X:World->Prop} (hX:∀w w':World,w.heap=w'.heap->X w->X w') (hXW:∀w,w.ShapedOpen K.prog->X w->Wp w)
  (wit:∃(w:World)(tape:Tape)(i:Input),w.os=os∧(w.forCall tape i).Shaped K.prog∧i.vars=[]∧Input.okWide K.prog (w.forCall tape i) .any w.heap.size f i∧
   ((s.pre enc K.prog fn conds false (w.forCall tape i).memory i.args∧X (w.forCall tape i).memory)∧sizedMet enc K.prog fn (OpenSpec.ofChange s) false (w.forCall tape i).memory i.args)∧({}:Assume).holds K.prog (lone (Frame.enter K.prog f i.args .normal) [] (w.forCall tape i))):
  ReturnsInHanded {} K os f .any (fun w args=>(s.pre enc K.prog fn conds false w args∧X w)∧sizedMet enc K.prog fn (OpenSpec.ofChange s) false w args) (s.post enc K.prog fn false true false false):=by
 refine returnsInHanded_of_calls own started noInit wit fun w tape i _ hso _ hok hpre _=>?_;obtain⟨_,_,_,fn',hfn',_,_,_,_,hval⟩:=hok;obtain rfl:=Option.some.inj (hfn'.symm.trans hfn);obtain⟨⟨⟨ds,gs,before,hw,_⟩,hx⟩,_⟩:=hpre;have hx':X (w.forCall tape i):=hX (w.forCall tape i).memory (w.forCall tape i) rfl hx;refine(PZ (C:=C) hP laid hall hres h4 hvars hs hsh hev (hC _ (hXW _ hso hx')) hval (DataW.Whole.of_heap (w':=w.forCall tape i) (by rfl) hw)).mono fun e W' hp=>?_;obtain⟨v,rfl,hp⟩:=hp;exact ChangeSpec.post_blind hp
theorem Aeb{n:Int}(h:(Lit.int .u8 n).wf=true):0<=n∧n<=255:=by
 have:=wf8 h;simp only[A2,A3]at this;exact this
theorem KY(os:Os)(started:os.Started)(H:Type)(enc:TypeId×Value->H):
  ReturnsInHanded {} Tryz.checked os 3 .any (fun w args=>(Rows.printTextsSpec.pre enc Tryz.prog Tryz.f3 Rows.printTextsRow.domain false w args∧Xt w)∧sizedMet enc Tryz.prog Tryz.f3 (OpenSpec.ofChange Rows.printTextsSpec) false w args) (Rows.printTextsSpec.post enc Tryz.prog Tryz.f3 false true false false):=
 Tj (C:=CTX) (Wp:=Wd) Ai7 (K:=Tryz.checked) rfl (f:=3) (d:=8) (e:=6) (fn:=Tryz.f3) (t4:=4) (sh:=[(true,[.int .u8,.slice DV,.slice Fh,.int .u8,.slice Es,.slice Cc,.slice Ar,.slice Cc,.int .i64,.slice Ar,.slice Ar,.int .i64,.slice Ar,.slice Ht,.int .u8]),(false,[.str])]) own (by kernel_rfl) Tryz.func3 laidOut (by kernel_rfl) (by kernel_rfl) Tryz.underlying4 rfl
  (fun H ds h=>by
   have h:ds.length=2:=h
   match ds,h with
   |[d1,d2],_=>rfl)
  (by kernel_rfl)
  (fun Ds h=>by
   cases h with
   |agg a h=>
   cases a with
   |cons c a=>
   cases c with
   |int w_k=>
   cases a with
   |cons c a=>
   cases c with
   |slice w_ca=>
   cases a with
   |cons c a=>
   cases c with
   |slice w_pi=>
   cases a with
   |cons c a=>
   cases c with
   |int w_pc=>
   cases a with
   |cons c a=>
   cases c with
   |slice w_wo=>
   cases a with
   |cons c a=>
   cases c with
   |slice w_gv=>
   cases a with
   |cons c a=>
   cases c with
   |slice w_aa=>
   cases a with
   |cons c a=>
   cases c with
   |slice w_fv=>
   cases a with
   |cons c a=>
   cases c with
   |int w_rr=>
   cases a with
   |cons c a=>
   cases c with
   |slice w_lr=>
   cases a with
   |cons c a=>
   cases c with
   |slice w_lp=>
   cases a with
   |cons c a=>
   cases c with
   |int w_ld=>
   cases a with
   |cons c a=>
   cases c with
   |slice w_ba=>
   cases a with
   |cons c a=>
   cases c with
   |slice w_pa=>
   cases a with
   |cons c a=>
   cases c with
   |int w_cl=>
   cases a;cases h with
   |one c h=>
   cases c with
   |str w1_0=>
   cases h;exact ZU (x:=⟨_,_,_,_,_,_,_,_,_,_,_,_,_,_,_⟩) ⟨w_ca,w_pi,w_wo,w_gv,w_aa,w_fv,w_lr,w_lp,w_ba,w_pa,A4 (wf64.1 w_rr),A4 (wf64.1 w_ld),Aeb w_pc,Aeb w_cl⟩ _)
  started (X:=Xt) (fun _ _ hh h=>laidMet.of_heap hh h) (fun _ hs h=>Xt.wt hs h)
  (ChangeSpec.witness_at (enc:=enc) (C:=Tryz.checked) (os:=os) (X:=fun w _=>Xt w) false (tabWorld os) #[.agg #[.int .u8 0,.slice none 0 0,.slice none 0 0,.int .u8 0,.slice none 0 0,.slice none 0 0,.slice none 0 0,.slice none 0 0,.int .i64 0,.slice none 0 0,.slice none 0 0,.int .i64 0,.slice none 0 0,.slice none 0 0,.int .u8 0],.string .empty] 8 rfl (by kernel_rfl) (by kernel_rfl) (by kernel_rfl) (by kernel_rfl) (by kernel_rfl) (Aci os _))
theorem Nw:Rows.printTextsRow.holds Tryz.pinned (OpenSpec.ofChange Rows.printTextsSpec):=
 OpenClaim.holds_of_wide 3 Tryz.f3 rfl rfl rfl rfl rfl rfl rfl ⟨rfl,rfl,rfl,rfl,rfl⟩ rfl rfl rfl rfl rfl (by kernel_rfl) Tryz.func3 (by kernel_rfl)
  (AD (by kernel_rfl)) (by unfold Func.isWrapper;first|(rw[AM (by decide+kernel)];kernel_rfl)|(rw[AL (by decide+kernel)];exact⟨rfl,rfl⟩))
  (fun os started H enc _=>KY os started H enc)
theorem printTexts_card:Rows.PrintTextsCardSaid:=
 Claim7.holds_tied_plain_at .later [] [.data,.data,.data,.data,.sentinel,.sentinel,.pinned] true (true,"287371002121231fd94f9a596d3a08228ee8f62210e728cdd3bd90be4eb15e0c") true
  Nw (fun _ h=>by cases h) (by kernel_rfl) (fun _ h=>by cases h) printTexts_row_tie rfl ⟨rfl,rfl⟩ (by kernel_rfl) rfl
  (fun f fn hf hfn=>by
   obtain rfl:f=3:=Option.some.inj ((show Tryz.prog.funcNamed Rows.printTextsRow.func=some 3 by kernel_rfl).symm.trans hf)|>.symm;obtain rfl:fn=Tryz.f3:=(Option.some.inj (Tryz.func3.symm.trans hfn)).symm;refine⟨by kernel_rfl,fun j t ht=>?_⟩;have hall:(Tryz.f3.params.toList.all fun t=> !Tryz.prog.wantsStandIn t)=true:=by kernel_rfl
   have hm:t∈Tryz.f3.params.toList:=List.mem_of_getElem? (by rw[Array.getElem?_toList];exact ht);have hq:Tryz.prog.wantsStandIn t=false:=by simpa using List.all_eq_true.1 hall t hm
   exact hq)
  (by kernel_rfl)
end Go.Proofs.YtnljjjghpgdmoaaGreatDoor

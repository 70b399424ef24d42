/- A part of the proof of PrintTexts. No conditions. -/
import Derived.Test.YtnljjjghpgdmoaaGreatDoorXaj
import Derived.Shelf.Sort.Plain
import Derived.Shelf.Slices.In.SortNone
import Derived.Sort.OwnSortedInts
import Derived.WalkKit
import Derived.BigCall
import Derived.Deep.QuietTactic
set_option linter.all false
namespace Go.Proofs.YtnljjjghpgdmoaaGreatDoor
open Go.Ev
set_option maxRecDepth 100000
def FVl(c:Row->Row->Bool)(o e:Row->Row->Int):FD
 |[.slice [.slice [.int .i64]] r,.slice [.int .i64] a]=>some (c r a,[.v (i64 (o r a)),.v (i64 (e r a))])
 |_=>none
def Ia(m v:Int):Bool:=decide (v< -10000000*m)||decide (v>10000000*m)
def mV:Dl:={τ:=pu 2++[.v (.c (.pointer (some ⟨0,0,some 0⟩))),.v (.c (.pointer (some ⟨1,0,some 0⟩)))]++pu 4++[.v (.int .i64)]++pu 36++[.v (.sl 2),.v (.int .i64),.v (.int .i64)]++pu 26,saved:=[[]],mem:=[.box [.v (.sl 3),.v (.int .i64)],.box [.v (.sl 4),.v (.sl 2),.v (.int .i64)],.row Ar false,.row Cc false,.row Ar false]}
structure A_lrv where
 sm:Int
 n:Nat
 len:Int
 j:Int
 rn:Nat
 k:Int
 pn:Nat
 n_2:Nat
 m:Int
 qr:Row
 r:Row
 p:Row
def nT(its:List It):Option A_lrv:=match its with|[.i sm,.n n,.i len,.i j,.n rn,.i k,.n pn,.n n_2,.i m,.r qr,.r r,.r p]=>some ⟨sm,n,len,j,rn,k,pn,n_2,m,qr,r,p⟩|_=>none
def sS(x:A_lrv):Bool:=x.j=0∧x.len=x.n∧x.n_2=x.n∧x.n<=1000000∧1<=x.m∧x.m<=60∧x.sm=0
def c_lrv_iff{x:A_lrv}:=@Bl _ sS _ _ rfl x
def lrv:RunL A_lrv (Int):=⟨38,11,[2,3,8,45,46,47],[2,3,4,8],mV,nT,fun x j a=>[.i a,.n x.n,.i (x.n:Int),.i (j:Int),.n x.rn,.i x.k,.n x.pn,.n x.n,.i x.m,.r x.qr,.r x.r,.r x.p],fun x=>x.n,sS,fun x=>x.sm,fun x j a=>Ia x.m (x.qr.I j 0),fun x j a=>a+x.qr.I j 0,fun x j a K=>K .ret ⟨us 2++[.pointer (some ⟨0,0,some 0⟩),.pointer (some ⟨1,0,some 0⟩),i64 8]++us 3++[i64 ((a))]++us 65,[[]],[some (.box [S_ 2 0 x.rn,i64 x.k]),some (.box [S_ 3 0 x.pn,S_ 4 0 x.n,i64 x.m]),Au Cc x.r,Au Ar x.p,Au Ar x.qr]⟩,fun x a K=>K (.exit 0) ⟨us 2++[.pointer (some ⟨0,0,some 0⟩),.pointer (some ⟨1,0,some 0⟩)]++us 4++[i64 ((a))]++us 65,[[]],[some (.box [S_ 2 0 x.rn,i64 x.k]),some (.box [S_ 3 0 x.pn,S_ 4 0 x.n,i64 x.m]),Au Cc x.r,Au Ar x.p,Au Ar x.qr]⟩⟩
noncomputable def Crv(c:Row->Row->Bool)(o e:Row->Row->Int):Cx:=AP Tryz.prog fns [(37,yS Ho Fv),(86,FVl c o e)] [lrv.C]
def Aff(c:Row->Row->Bool)(o e:Row->Row->Int)(R:St->OD)(K:X->St->OD)(q:Nat)(sm:Int)(n:Nat)(len j:Int)(rn:Nat)(k:Int)(pn n_2:Nat)(m:Int)(qr r p:Row):Ak (Crv c o e) 38 11 q (bst mV [.i sm,.n n,.i len,.i j,.n rn,.i k,.n pn,.n n_2,.i m,.r qr,.r r,.r p]) (BF [2,3,8,45,46,47] (some [2,3,4,8]) R K)=br (j<len) (br (0<=j&&j<(n:Int)) (br (qr.I (0+j.toNat) 0<IntKind.i64.wrap (-10000000*m)) (K .ret ⟨us 2++[.pointer (some ⟨0,0,some 0⟩),.pointer (some ⟨1,0,some 0⟩),i64 8]++us 3++[i64 sm]++us 65,[[]],[some (.box [S_ 2 0 rn,i64 k]),some (.box [S_ 3 0 pn,S_ 4 0 n_2,i64 m]),Au Cc r,Au Ar p,Au Ar qr]⟩) (br (qr.I (0+j.toNat) 0>IntKind.i64.wrap (10000000*m)) (K .ret ⟨us 2++[.pointer (some ⟨0,0,some 0⟩),.pointer (some ⟨1,0,some 0⟩),i64 8]++us 3++[i64 sm]++us 65,[[]],[some (.box [S_ 2 0 rn,i64 k]),some (.box [S_ 3 0 pn,S_ 4 0 n_2,i64 m]),Au Cc r,Au Ar p,Au Ar qr]⟩) (R (bst mV [.i (IntKind.i64.wrap (sm+qr.I (0+j.toNat) 0)),.n n,.i len,.i (IntKind.i64.wrap (j+1)),.n rn,.i k,.n pn,.n n_2,.i m,.r qr,.r r,.r p])))) none) (K (.exit 0) ⟨us 2++[.pointer (some ⟨0,0,some 0⟩),.pointer (some ⟨1,0,some 0⟩)]++us 4++[i64 sm]++us 65,[[]],[some (.box [S_ 2 0 rn,i64 k]),some (.box [S_ 3 0 pn,S_ 4 0 n_2,i64 m]),Au Cc r,Au Ar p,Au Ar qr]⟩):=k_
def urv(c:Row->Row->Bool)(o e:Row->Row->Int)(r p qr:Row)(n m:Int):BH (Crv c o e) 6 38 [.agg [.slice Oc r,.v (i64 n)],.agg [.slice Hf p,.slice Hf qr,.v (i64 m)]]=br (Ho (w_ r 0 r.n) n) (br (Fv (w_ r 0 r.n) n !=0) (some [.v (i64 (Fv (w_ r 0 r.n) n))]) (br (c (w_ r 0 r.n) (w_ p 0 p.n)) (br (e (w_ r 0 r.n) (w_ p 0 p.n) !=0) (some [.v (i64 (e (w_ r 0 r.n) (w_ p 0 p.n)))]) (br (m<1) (some [.v (i64 8)]) (br (m>60) (some [.v (i64 8)]) (br ((qr.n:Int) !=(r.n:Int)) (some [.v (i64 8)]) (br (sS (⟨0,qr.n,(qr.n:Int),0,r.n,n,p.n,qr.n,m,qr,r,p⟩:A_lrv)) (br ((Bf (lrv.stop (⟨0,qr.n,(qr.n:Int),0,r.n,n,p.n,qr.n,m,qr,r,p⟩:A_lrv)) (lrv.nx (⟨0,qr.n,(qr.n:Int),0,r.n,n,p.n,qr.n,m,qr,r,p⟩:A_lrv)) (lrv.len (⟨0,qr.n,(qr.n:Int),0,r.n,n,p.n,qr.n,m,qr,r,p⟩:A_lrv)) 0 (lrv.ini (⟨0,qr.n,(qr.n:Int),0,r.n,n,p.n,qr.n,m,qr,r,p⟩:A_lrv))).1) (some [.v (i64 8)]) (br ((Bf (lrv.stop (⟨0,qr.n,(qr.n:Int),0,r.n,n,p.n,qr.n,m,qr,r,p⟩:A_lrv)) (lrv.nx (⟨0,qr.n,(qr.n:Int),0,r.n,n,p.n,qr.n,m,qr,r,p⟩:A_lrv)) (lrv.len (⟨0,qr.n,(qr.n:Int),0,r.n,n,p.n,qr.n,m,qr,r,p⟩:A_lrv)) 0 (lrv.ini (⟨0,qr.n,(qr.n:Int),0,r.n,n,p.n,qr.n,m,qr,r,p⟩:A_lrv))).snd.2 !=IntKind.i64.wrap (n*m)) (some [.v (i64 8)]) (some [.v (i64 0)]))) none))))) none)) (none):=k_
def Am0(c:Row->Row->Bool)(o e:Row->Row->Int):Ah (Crv c o e) lrv.C:=lrv.ok (fun x j a=> -600000000*(j:Int)<=a∧a<=600000000*(j:Int)) k_
 (fun its x h hc=>by
  replace h:nT its=some x:=h;unfold nT at h;split at h
  ·cases h;have h:=c_lrv_iff.1 hc;dsimp only at h;obtain⟨rfl,rfl,rfl,_⟩:=h;rfl
  ·cases h)
 (fun x hc=>by have:=c_lrv_iff.1 hc;show x.n<2^64;omega)
 (fun x hc=>by
  have:=(c_lrv_iff.1 hc).2.2.2.2.2.2;show-600000000*((0:Nat):Int)<=x.sm∧x.sm<=600000000*((0:Nat):Int);omega)
 (fun x j a hc hi hI hs=>by
  have g:=c_lrv_iff.1 hc;replace hI: -600000000*(j:Int)<=a∧a<=600000000*(j:Int):=hI;replace hs:Ia x.m (x.qr.I j 0)=false:=hs;unfold Ia at hs;simp only[AI,decide_eq_false_iff_not]at hs;show-600000000*((j+1:Nat):Int)<=a+x.qr.I j 0∧a+x.qr.I j 0<=600000000*((j+1:Nat):Int);omega)
 (fun q ⟨sm0,n,len0,j0,rn,k,pn,n_2,m,qr,r,p⟩ j a hc hi hI R K=>by
  obtain⟨h1,h2,h3,h4,h5,h6,h7⟩:=c_lrv_iff.1 hc;dsimp only at*
  replace hi:j<n:=hi;refine(Aff c o e R K q ((a)) n ((n:Int)) ((j:Int)) rn k pn n m qr r p).trans ?_;replace hI: -600000000*(j:Int)<=a∧a<=600000000*(j:Int):=hI;rw[A9,AE j,gd j n hi,DX j n hi,Eg o_,show IntKind.i64.wrap (-10000000*m)= -10000000*m from wrap64 o_ o_,show IntKind.i64.wrap (10000000*m)=10000000*m from wrap64 o_ o_,Aa,Aa];refine(Fz _ _ _ _).symm.trans ?_;show br (Ia m (qr.I j 0)) _ _=br (Ia m (qr.I j 0)) _ _;cases hb:Ia m (qr.I j 0)
  ·unfold Ia at hb;simp only[AI,decide_eq_false_iff_not]at hb;rw[Ac,Ac,show IntKind.i64.wrap (a+qr.I j 0)=a+qr.I j 0 from wrap64 o_ o_];rfl
  ·rfl)
 (fun q ⟨sm0,n,len0,j0,rn,k,pn,n_2,m,qr,r,p⟩ a hc hI R K=>by
  obtain⟨h1,h2,h3,h4,h5,h6,h7⟩:=c_lrv_iff.1 hc;dsimp only at*
  refine(Aff c o e R K q ((a)) n ((n:Int)) ((n:Int)) rn k pn n m qr r p).trans ?_;rw[EU n];rfl)
def Ai0{c:Row->Row->Bool}{o e:Row->Row->Int}(hv:Den Tryz.prog 86 (FVl c o e)):Be (Crv c o e):=Aj enter mixed (Aw den_roo<|Aw hv AX) (Aw (Am0 ..) AX)
def Acg(m:Int)(qr:Row):Bool×Nat×Int:=Bf (fun j _=>Ia m (qr.I j 0)) (fun j a=>a+qr.I j 0) qr.n 0 0
def LM(e:Row->Row->Int)(r:Row)(n:Int)(p qr:Row)(m:Int):Int:=bif Fv r n !=0 then Fv r n else bif e (Ae r) (Ae p) !=0 then e (Ae r) (Ae p)else bif m<1 then 8 else bif m>60 then 8 else bif (qr.n:Int) !=(r.n:Int)then 8 else bif (Acg m qr).1 then 8 else bif (Acg m qr).2.2 !=IntKind.i64.wrap (n*m)then 8 else 0
def Lu(c:Row->Row->Bool)(r:Row)(n:Int)(p qr:Row)(_:Int):Bool:=Ho r n&&c (Ae r) (Ae p)&&decide (qr.n<=1000000)
def FRv(c:Row->Int->Row->Row->Int->Bool)(b:Row->Int->Row->Row->Int->Int):FD
 |[.agg [.slice [.slice [.int .i64]] r,.v (.int .i64 n)],.agg [.slice [.int .i64] p,.slice [.int .i64] q,.v (.int .i64 m)]]=>some (c r n p q m,[.v (i64 (b r n p q m))])
 |_=>none
def Abf{c:Row->Row->Bool}{o e:Row->Row->Int}(hv:Den Tryz.prog 86 (FVl c o e)):Den Tryz.prog 38 (FRv (Lu c) (LM e)):=Af (Ai0 hv) fun ds rs h=>by
 unfold FRv at h;split at h
 ·rename_i r n p qr m;simp only[A5,A6]at h;obtain⟨h0,rfl⟩:=h;unfold Lu at h0;rw[A2,A2]at h0;obtain⟨⟨g1,g2⟩,g3⟩:=h0;have g3:=AD g3;refine(urv c o e r p qr n m).trans ?_;refine Fp (show Ho (w_ r 0 r.n) n=true from g1) (Cb fun h1=>Fp (show c (w_ r 0 r.n) (w_ p 0 p.n)=true from g2) (Cb fun h2=>Cb fun h3=>Cb fun h4=>Cb fun h5=>?_));have k3:¬m<1:=AO h3;have k4:¬m>60:=AO h4;refine Fp (c_lrv_iff.2 ⟨rfl,rfl,rfl,g3,by show 1<=m;omega,by show m<=60;omega,rfl⟩) ?_;exact Cb fun h6=>Cb fun h7=>rfl
 ·cases h
def AsP(r a:Row)(n:Nat):Prop:=n<=r.n∧∀i,i<n->0<=a.I i 0∧a.I i 0<((r.R i 0).n:Int)
instance(r a:Row)(n:Nat):Decidable (AsP r a n):=by unfold AsP;infer_instance
def tC:Dl:={τ:=[.v (.sl 0)]++pu 4++[.v (.int .i64)]++pu 2++[.v (.sl 1),.v (.int .i64),.v (.int .i64)]++pu 15,saved:=[[]],mem:=[.row Cc false,.row Ar false]}
structure A_lva where
 rn:Nat
 sm:Int
 n:Nat
 len:Int
 j:Int
 r:Row
 a0:Row
def xK(its:List It):Option A_lva:=match its with|[.n rn,.i sm,.n n,.i len,.i j,.r r,.r a0]=>some ⟨rn,sm,n,len,j,r,a0⟩|_=>none
def nP(x:A_lva):Bool:=x.j=0∧x.len=x.n∧x.n<=1000000∧AsP x.r x.a0 x.n∧x.rn=x.r.n
def c_lva_iff{x:A_lva}:=@Bl _ nP _ _ rfl x
def lva:FoldL A_lva (Int):=⟨130,3,[0,5,8,9,10],[4,5],tC,xK,fun x j a=>[.n x.rn,.i a,.n x.n,.i (x.n:Int),.i (j:Int),.r x.r,.r x.a0],fun x=>x.n,nP,fun x=>x.sm,fun x j a=>IntKind.i64.wrap (a+(x.r.R j 0).I (x.a0.I j 0).toNat 0),fun x a K=>K (.exit 0) ⟨us 5++[i64 ((a))]++us 20,[[]],[]⟩⟩
noncomputable def Cva:Cx:=AP Tryz.prog fns [] [lva.C]
def Ado(R:St->OD)(K:X->St->OD)(q rn:Nat)(sm:Int)(n:Nat)(len j:Int)(r a0:Row):Ak Cva 130 3 q (bst tC [.n rn,.i sm,.n n,.i len,.i j,.r r,.r a0]) (BF [0,5,8,9,10] (some [4,5]) R K)=br (j<len) (br (0<=j&&j<(n:Int)) (br (0<=j&&j<(rn:Int)) (br (0<=a0.I (0+j.toNat) 0&&a0.I (0+j.toNat) 0<(↑(r.R (0+j.toNat) 0).n:Int)) (R (bst tC [.n rn,.i (IntKind.i64.wrap (sm+(r.R (0+j.toNat) 0).I (0+(a0.I (0+j.toNat) 0).toNat) 0)),.n n,.i len,.i (IntKind.i64.wrap (j+1)),.r r,.r a0])) none) none) none) (K (.exit 0) ⟨us 5++[i64 sm]++us 20,[[]],[]⟩):=k_
def uva(r a:Row):BH Cva 6 130 [.slice Oc r,.slice Hf a]=br (nP (⟨r.n,0,a.n,(a.n:Int),0,r,a⟩:A_lva)) (some [.v (i64 (BK (fun j a_1=>IntKind.i64.wrap (a_1+(r.R j 0).I (a.I j 0).toNat 0)) a.n 0 0))]) (none):=k_
def Afu:Ah Cva lva.C:=lva.ok (fun x j a=>True) k_
 (fun its x h hc=>by
  replace h:xK its=some x:=h;unfold xK at h;split at h
  ·cases h;have h:=c_lva_iff.1 hc;dsimp only at h;obtain⟨rfl,rfl,_⟩:=h;rfl
  ·cases h)
 (fun x hc=>by have:=c_lva_iff.1 hc;show x.n<2^64;omega)
 (fun x hc=>by
  trivial)
 (fun x j a hc hi hI=>by
  trivial)
 (fun q ⟨rn,sm0,n,len0,j0,r,a0⟩ j a hc hi hI R K=>by
  obtain⟨h1,h2,h3,h4,h5⟩:=c_lva_iff.1 hc;dsimp only at*
  replace hi:j<n:=hi;refine(Ado R K q rn ((a)) n ((n:Int)) ((j:Int)) r a0).trans ?_;have k1:=h4.2 j hi;have k2:=h4.1;rw[A9,AE j,gd j n hi,DX j n hi,Eg o_,gd j rn o_,show(decide (0<=a0.I j 0)&&decide (a0.I j 0<((r.R j 0).n:Int)))=true by simp only[A2,A3];exact k1,AE];rfl)
 (fun q ⟨rn,sm0,n,len0,j0,r,a0⟩ a hc hI R K=>by
  obtain⟨h1,h2,h3,h4,h5⟩:=c_lva_iff.1 hc;dsimp only at*
  refine(Ado R K q rn ((a)) n ((n:Int)) ((n:Int)) r a0).trans ?_;rw[EU n];rfl)
def Ahn:Be Cva:=Aj enter mixed AX (Aw Afu AX)
def zB(r a:Row):Int:=BK (fun j c=>IntKind.i64.wrap (c+(r.R j 0).I (a.I j 0).toNat 0)) a.n 0 0
def vaC(r a:Row):Bool:=a.n<=1000000∧AsP r a a.n
def FVa(c:Row->Row->Bool)(o:Row->Row->Int):FD
 |[.slice [.slice [.int .i64]] r,.slice [.int .i64] a]=>some (c r a,[.v (i64 (o r a))])
 |_=>none
def Ah2:Den Tryz.prog 130 (FVa vaC zB):=Af Ahn fun ds rs h=>by
 unfold FVa at h;split at h
 ·rename_i r a;simp only[A5,A6]at h;obtain⟨h0,rfl⟩:=h;have h0:=AD h0;refine(uva r a).trans ?_;rw[c_lva_iff.2 ⟨rfl,rfl,h0.1,h0.2,rfl⟩,Aa];rfl
 ·cases h
def FAs(c b:Row->Int->Bool):FD
 |[.slice [.int .i64] a,.v (.int .i64 n)]=>some (c a n,[.v (.bool (b a n))])
 |_=>none
noncomputable def CVl(c b:Row->Int->Bool):Cx:=AP Tryz.prog fns [(85,X7),(129,FAs c b),(130,FVa vaC zB)] []
def uVl(c b:Row->Int->Bool)(r a:Row):BH (CVl c b) 6 86 [.slice Oc r,.slice Hf a]=br (GR (w_ r 0 r.n)) (br (Fg (w_ r 0 r.n) !=0) (some [.v (i64 0),.v (i64 (Fg (w_ r 0 r.n)))]) (br (c (w_ a 0 a.n) (r.n:Int)) (br (!b (w_ a 0 a.n) (r.n:Int)) (some [.v (i64 0),.v (i64 8)]) (br (vaC (w_ r 0 r.n) (w_ a 0 a.n)) (some [.v (i64 (zB (w_ r 0 r.n) (w_ a 0 a.n))),.v (i64 0)]) none)) none)) (none):=k_
def Ajq{c:Row->Int->Bool}{b:Row->Int->Bool}(hv:Den Tryz.prog 129 (FAs c b)):Be (CVl c b):=Aj enter mixed (Aw XT<|Aw hv<|Aw Ah2 AX) AX
def Kz(b:Row->Int->Bool)(r a:Row):Int:=bif Fg r !=0 then Fg r else bif !b (Ae a) (r.n:Int)then 8 else 0
def Agc(b:Row->Int->Bool)(r a:Row):Int:=bif Fg r !=0 then 0 else bif !b (Ae a) (r.n:Int)then 0 else zB r a
def JV(c:Row->Int->Bool)(r a:Row):Bool:=GR r&&c (Ae a) (r.n:Int)
def LJ{r:Row}(h:Fg r=0):1<=r.n∧r.n<=6∧∀j,j<r.n->(r.R j 0).n=r.n∧Ib (r.R j 0)=false:=by
 unfold Fg at h;cases h1:decide ((r.n:Int)>6)
 ·rw[h1]at h;cases h2:(r.n:Int)==0
  ·rw[h2]at h;cases h3:Ag (Jt r r.n) r.n 0
   ·have:=AO h1;have h2':¬(r.n:Int)=0:=by simpa using h2
    refine⟨o_,o_,fun j hj=>?_⟩;have g:=anyF_false.1 h3 j (Nat.zero_le _) o_;unfold Jt at g;rw[AI]at g;have g1:((r.R j 0).n:Int)=(r.n:Int):=by simpa using g.1
    exact⟨o_,g.2⟩
   ·rw[h3]at h;exact absurd h y_
  ·rw[h2]at h;exact absurd h y_
 ·rw[h1]at h;exact absurd h y_
def Ac1{c:Row->Int->Bool}{b:Row->Int->Bool}(hv:Den Tryz.prog 129 (FAs c b))(hb:∀(a:Row)(n:Nat),b a (n:Int)=true->a.n=n∧∀i,i<n->0<=a.I i 0∧a.I i 0<(n:Int)):
  Den Tryz.prog 86 (FVl (JV c) (Agc b) (Kz b)):=Af (Ajq hv) fun ds rs h=>by
 unfold FVl at h;split at h
 ·rename_i r a;simp only[A5,A6]at h;obtain⟨h0,rfl⟩:=h;unfold JV at h0;rw[A2]at h0;obtain⟨g1,g2⟩:=h0;refine(uVl c b r a).trans ?_;refine Fp (show GR (w_ r 0 r.n)=true from g1) ?_;show br (Fg r !=0) (some [D.v (i64 0),D.v (i64 (Fg r))]) _=_;unfold Agc Kz;cases h1:Fg r !=0
  ·rw[Ac];refine Fp (show c (w_ a 0 a.n) (r.n:Int)=true from g2) ?_;show br (!b (Ae a) (r.n:Int)) _ _=_;cases h2:b (Ae a) (r.n:Int)
   ·rfl
   ·have ha:Fg r=0:=by simpa using h1
    obtain⟨a1,a2,a3⟩:=LJ ha;obtain⟨b1,b2⟩:=hb _ _ h2;have b1:a.n=r.n:=b1;refine Fp (A4 ⟨by show a.n<=_;omega,by show a.n<=r.n;omega,fun i hi=>?_⟩) rfl;have hi:i<a.n:=hi;have:=b2 i o_;show 0<=a.I i 0∧a.I i 0<((r.R i 0).n:Int);rw[(a3 i o_).1];exact this
  ·rfl
 ·cases h
end Go.Proofs.YtnljjjghpgdmoaaGreatDoor
namespace Go.Proofs
open Go.Shelf
def Tryz.lays189_ren:Go.Shelf.Ren:=⟨fun|189=>192|125=>204|257=>203|128=>216|129=>195|294=>207|295=>208|296=>209|297=>210|298=>211|299=>212|216=>213|300=>214|301=>215|328=>217|329=>218|330=>219|331=>220|332=>221|215=>222|343=>223|n=>n,fun|28=>32|3=>3|46=>196|0=>0|51=>233|53=>189|4=>4|183=>282|182=>281|131=>184|5=>5|9=>9|218=>287|222=>291|228=>293|229=>294|n=>n,fun|n=>n⟩
def Tryz.lays189:Go.Proofs.Lays.n189 Tryz.prog Tryz.lays189_ren:={
 mixed:=k_
 f125:=Tryz.func204.trans Bv
 f128:=Tryz.func216.trans Bv
 f129:=Tryz.func195.trans Bv
 f189:=Tryz.func192.trans Bv
 f215:=Tryz.func222.trans Bv
 f216:=Tryz.func213.trans Bv
 f257:=Tryz.func203.trans Bv
 f294:=Tryz.func207.trans Bv
 f295:=Tryz.func208.trans Bv
 f296:=Tryz.func209.trans Bv
 f297:=Tryz.func210.trans Bv
 f298:=Tryz.func211.trans Bv
 f299:=Tryz.func212.trans Bv
 f300:=Tryz.func214.trans Bv
 f301:=Tryz.func215.trans Bv
 f328:=Tryz.func217.trans Bv
 f329:=Tryz.func218.trans Bv
 f330:=Tryz.func219.trans Bv
 f331:=Tryz.func220.trans Bv
 f332:=Tryz.func221.trans Bv
 f343:=Tryz.func223.trans Bv
 t0:=Tryz.underlying0
 a0:=Tryz.isAgg0
 z0:=Tryz.sizeOf0
 v0:=Tryz.zeroValue0
 t3:=Tryz.underlying3
 a3:=Tryz.isAgg3
 z3:=Tryz.sizeOf3
 v3:=Tryz.zeroValue3
 t4:=Tryz.underlying4
 a4:=Tryz.isAgg4
 z4:=Tryz.sizeOf4
 v4:=Tryz.zeroValue4
 t5:=Tryz.underlying5
 a5:=Tryz.isAgg5
 z5:=Tryz.sizeOf5
 v5:=Tryz.zeroValue5
 t9:=Tryz.underlying9
 a9:=Tryz.isAgg9
 z9:=Tryz.sizeOf9
 v9:=Tryz.zeroValue9
 t28:=Tryz.underlying32
 a28:=Tryz.isAgg32
 z28:=Tryz.sizeOf32
 v28:=Tryz.zeroValue32
 t46:=Tryz.underlying196
 a46:=Tryz.isAgg196
 z46:=Tryz.sizeOf196
 v46:=Tryz.zeroValue196
 t51:=Tryz.underlying233
 a51:=Tryz.isAgg233
 z51:=Tryz.sizeOf233
 v51:=Tryz.zeroValue233
 t53:=Tryz.underlying189
 a53:=Tryz.isAgg189
 z53:=Tryz.sizeOf189
 v53:=Tryz.zeroValue189
 t131:=Tryz.underlying184
 a131:=Tryz.isAgg184
 z131:=Tryz.sizeOf184
 v131:=Tryz.zeroValue184
 t182:=Tryz.underlying281
 a182:=Tryz.isAgg281
 z182:=Tryz.sizeOf281
 v182:=Tryz.zeroValue281
 t183:=Tryz.underlying282
 a183:=Tryz.isAgg282
 z183:=Tryz.sizeOf282
 v183:=Tryz.zeroValue282
 t218:=Tryz.underlying287
 a218:=Tryz.isAgg287
 z218:=Tryz.sizeOf287
 v218:=Tryz.zeroValue287
 t222:=Tryz.underlying291
 a222:=Tryz.isAgg291
 z222:=Tryz.sizeOf291
 v222:=Tryz.zeroValue291
 t228:=Tryz.underlying293
 a228:=Tryz.isAgg293
 z228:=Tryz.sizeOf293
 v228:=Tryz.zeroValue293
 t229:=Tryz.underlying294
 a229:=Tryz.isAgg294
 z229:=Tryz.sizeOf294
 v229:=Tryz.zeroValue294}
open Go.Sort Go.RowKit in
def Tryz.slices_Sort_int(blk off cap:Nat)(zs:List Int)(w:World)(hH:Holds (Value.int .i64) w blk off zs.toArray)(hblk:blk<w.heap.size)(hsz:zs.length<4611686018427387904):
  Calls Tryz.prog 192 #[.slice (some ⟨blk,off,none⟩) zs.length cap] w fun e w'=>
   e=.returned (.tuple #[])∧∃n os,w'=grow (putRow (Value.int .i64) (Sort.ahead w n) blk off (zs.mergeSort fun x y=>decide (x<=y)).toArray) os:=Any.slices_Sort_int Tryz.lays189 blk off cap zs w hH hblk hsz
open Go.RowKit Go.Sort in
def Tryz.slices_Sort_int_none(p:Option Addr)(cap:Nat)(w:World):
  Calls Tryz.prog 192 #[.slice p 0 cap] w fun e w'=>e=.returned (.tuple #[])∧w'=w:=Any.slices_Sort_int_none Tryz.lays189 p cap w
end Go.Proofs
namespace Go.Proofs.YtnljjjghpgdmoaaGreatDoor
open Go.Ev Go.RowKit Go.Sort
set_option maxRecDepth 100000
def Zi(p:Prop):Prop:=p
def WJ(x y:Int):Bool:=x<=y
set_option maxHeartbeats 1000000 in
def UT(a:Option Addr)(len cap:Nat)(w:World):Calls Tryz.prog 166 #[.slice a len cap] w fun e w'=>e=.returned (.func (.func 193) #[] #[.pointer (some ⟨w.heap.size,0,none⟩)])∧w'=w.alloc (.cells #[.slice a len cap] 32):=by
 go_enter Tryz.func166,Tryz.ntmps166
 go_wp2
 go_ret
 exact⟨rfl,rfl⟩
set_option maxHeartbeats 1000000 in
def Sz(Bs:Nat)(sv:Value)(len:Nat)(z:Nat->Int)(hlen:len<=1000000)(w:World)(hBs:Bs<w.heap.size)(hcs:w.cell? ⟨Bs,0,none⟩=some sv)(hI:Nums w.heap.size w sv len z):
  Calls Tryz.prog 191 #[.func (.func 193) #[] #[.pointer (some ⟨Bs,0,none⟩)]] w fun e W'=>∃v,e=.returned v∧W'.ownsRow w.heap.size 3 1 v len ((upto z len).map (Value.int .i64))∧(v=.slice none 0 0↔len=0)∧Below w.heap.size w W':=by
 go_enter Tryz.func191,Tryz.ntmps191
 go_wp2_with (first|(go_at_call 202;refine((callsIn_wide (n:=3)).1 (ZX Fence.wide 3 trivial trivial rfl o_ Bs sv len z hlen w hBs hcs hI)).mono ?_))
 rintro e w' ⟨v,rfl,hrow,hnil,hb⟩
 go_wp2
 go_ret
 exact⟨v,rfl,hrow,hnil,hb⟩
def OY(l:List Int):(l.mergeSort WJ).length=l.length:=(List.mergeSort_perm l WJ).length_eq
set_option maxHeartbeats 1000000 in
def Ub(Bs:Nat)(sv:Value)(len:Nat)(z:Nat->Int)(hlen:len<=1000000)(w:World)(hBs:Bs<w.heap.size)(hcs:w.cell? ⟨Bs,0,none⟩=some sv)(hI:Nums w.heap.size w sv len z):
  Calls Tryz.prog 165 #[.func (.func 193) #[] #[.pointer (some ⟨Bs,0,none⟩)]] w fun e W'=>∃a cap b,e=.returned (.slice a len cap)∧(0<len->a=some ⟨b,0,none⟩)∧(∀j,j<len->W'.cell? ⟨b,j,none⟩=some (.int .i64 (((upto z len).mergeSort WJ).getD j 0)))∧Below w.heap.size w W':=by
 go_enter Tryz.func165,Tryz.ntmps165
 go_wp2_with (first|(go_at_call 191;refine(Sz Bs sv len z hlen w hBs hcs hI).mono ?_))
 rintro e W ⟨v,rfl,hrow,hnil,hb⟩;by_cases h0:len=0
 ·subst h0;obtain rfl:=hnil.2 rfl
  go_wp2_with (first|(go_at_call 192;refine(Tryz.slices_Sort_int_none none 0 W).mono ?_))
  rintro e w' ⟨rfl,rfl⟩
  go_wp2
  go_ret
  exact⟨none,0,0,rfl,fun h=>o_,fun j hj=>o_,hb⟩
 ·rcases hrow.2 with⟨rfl,hz⟩|⟨gb,cap,cur,rfl,hbase,hgb,r1,r2,r3,r4⟩
  ·exact absurd (hnil.1 rfl) h0
  ·have hul:(upto z len).length=len:=upto_length z len;have hH:Holds (Value.int .i64) W gb 0 (upto z len).toArray:=holds_of_blockI hgb (by rw[hul];simpa using r4);have hgl:gb<W.heap.size:=(A1.1 hgb).1;have cS:=Tryz.slices_Sort_int gb 0 cap (upto z len) W hH hgl o_;rw[hul]at cS
   go_wp2_with (first|(go_at_call 192;refine cS.mono ?_))
   rintro e w' ⟨rfl,nn,os,rfl⟩
   go_wp2
   go_ret
   have hrow2:=ownsRow_sortedI (n:=nn) (os:=os) (ss:=upto z len) (ts:=(upto z len).mergeSort WJ) (OY _) hbase hgb o_ r2 r3;refine⟨_,cap,gb,rfl,fun _=>rfl,fun j hj=>?_,hb.grown (grownBy_sortedI _) hb.size (fun k hk=>by cases hk;exact hbase)⟩;have hj2:j<((upto z len).mergeSort WJ).length:=by rw[OY,hul];exact hj
   have h9:=hrow2.cells (g:=gb) rfl j (.int .i64 (((upto z len).mergeSort WJ).getD j 0)) (by
    rw[List.getElem?_map,AK hj2,List.getD_eq_getElem?_getD,AK hj2];rfl)
   have e9:(⟨gb,0,none⟩:Addr).add j=⟨gb,j,none⟩:=by rw[Addr.add_lit,AE]
   rw[e9]at h9;exact h9
def xZ(l:List Int)(n:Int):Bool:= !Ag (fun j=>((l.mergeSort WJ).getD j 0) !=(j:Int)) l.length 0&&((l.length:Int)==n)
set_option maxHeartbeats 2000000 in
def Nv(a:Option Addr)(b off len cap:Nat)(z:Nat->Int)(n:Int)(hlen:len<=1000000)(w:World)(ha:0<len->a=some ⟨b,off,none⟩∧b<w.heap.size)(hc:∀j,j<len->w.cell? ⟨b,off+j,none⟩=some (.int .i64 (z j))):
  Calls Tryz.prog 129 #[.slice a len cap,.int .i64 n] w fun e w'=>e=.returned (.bool (xZ (upto z len) n))∧Below w.heap.size w w':=by
 have hb0:Below w.heap.size w (w.alloc (.cells #[.slice a len cap] 32)):=(Below.refl _ w).alloc (AC _) _;have hsz:(w.alloc (.cells #[.slice a len cap] 32)).heap.size=w.heap.size+1:=y_;have hnew:(w.alloc (.cells #[.slice a len cap] 32)).heap[w.heap.size]? =some (.cells #[.slice a len cap] 32 (0,0)):=by
  show(w.heap.push _)[w.heap.size]? =_;simp
 have hcell:(w.alloc (.cells #[.slice a len cap] 32)).cell? ⟨w.heap.size,0,none⟩=some (.slice a len cap):=by
  simp only[World.cell?,hnew];rfl
 have hN:Nums (w.alloc (.cells #[.slice a len cap] 32)).heap.size (w.alloc (.cells #[.slice a len cap] 32)) (.slice a len cap) len z:=
  ⟨a,cap,b,off,rfl,fun h=>⟨(ha h).1,by have:=(ha h).2;omega⟩,fun j hj=>(hb0.cell (p:=⟨b,off+j,none⟩) (ha o_).2).trans (hc j hj)⟩
 go_enter Tryz.func129,Tryz.ntmps129
 have hS:=Ub w.heap.size (.slice a len cap) len z hlen _ o_ hcell hN;have hS2:Calls Tryz.prog 165 #[.func (.func 193) #[] #[.pointer (some ⟨w.heap.size,0,none⟩)]] (w.alloc (.cells #[.slice a len cap] 32)) fun e w'=>∃a2 cap2 b2,e=.returned (.slice a2 len cap2)∧(0<len->a2=some ⟨b2,0,none⟩)∧(∀j,j<len->w'.cell? ⟨b2,j,none⟩=some (.int .i64 (((upto z len).mergeSort WJ).getD j 0)))∧Below w.heap.size w w':=hS.mono fun e w' ⟨a2,cap2,b2,h1,h2,h3,h4⟩=>⟨a2,cap2,b2,h1,h2,h3,hb0.trans (h4.mono o_)⟩;clear hS hcell hN hb0 ha hc hsz;have hul:(upto z len).length=len:=upto_length z len;obtain⟨q,hq⟩:∃q:Nat->Int,∀j,((upto z len).mergeSort WJ).getD j 0=q j:=⟨_,fun _=>rfl⟩;have hqa:Zi (xZ (upto z len) n=(!Ag (fun j=>q j !=(j:Int)) len 0&&((len:Int)==n))):=by
  show _=_;unfold xZ;rw[hul]
  congr 2
  exact JS fun i _ _=>by rw[hq]
 simp only[hq]at hS2;clear hq hul
 go_wp2_with (first|(go_at_call 166;refine(UT a len cap w).mono ?_;rintro e w1 ⟨rfl,rfl⟩)|(go_at_call 165;refine hS2.mono ?_;rintro e w2 ⟨a2,cap2,b2,rfl,ha2,hc2,hB⟩))
 clear hS2 hnew;have hB2:Zi (Below w.heap.size w w2):=hB;clear hB
 go_loopw [13] (fun i wr=>∃k:Nat,i=.int .i64 k∧k<=len∧wr=w2∧∀j,j<k->q j=(j:Int)) (fun i _=>len-(RowKit.intOf i).toNat)
 case atStart=>exact⟨0,rfl,Nat.zero_le _,rfl,fun j hj=>o_⟩
 case round=>
  obtain⟨k,rfl,hk,rfl,hall⟩:=hrel;have hall2:Zi (∀j,j<k->q j=(j:Int)):=hall;clear hall;by_cases hp:k<len
  ·have ha2':=ha2 o_;subst ha2';have hcx:=hc2 k hp;clear hc2 ha2;by_cases he:q k=(k:Int)
   ·have he2:Zi (q k=(k:Int)):=he;rw[he]at hcx;clear he
    go_wp2
    go_roundw
    case rel=>
     refine⟨k+1,by go_num,o_,by first|rfl|trivial,fun j hj=>?_⟩
     by_cases hjk:j=k
     ·subst hjk;exact he2
     ·exact hall2 j o_
    case measure=>simp[RowKit.intOf];omega
   ·have hfal:Zi (xZ (upto z len) n=false):=by
     show _=_;rw[show _=_ from hqa,anyF_iff.2 ⟨k,Nat.zero_le _,o_,by simpa using he⟩];rfl
    have he3:(q k==(k:Int))=false:=by simpa using he
    clear hqa hall2;generalize q k=x at hcx he3 he
    go_wp2
    go_ret
    exact⟨by rw[show xZ (upto z len) n=false from hfal];rfl,hB2⟩
  ·obtain rfl:k=len:=o_;have htr:Zi (xZ (upto z k) n=((k:Int)==n)):=by
    show _=_;rw[show _=_ from hqa,anyF_false.2 (fun i _ hi=>by simpa using hall2 i o_)];rfl
   clear hqa hall2
   go_wp2
   go_ret
   exact⟨by rw[show xZ (upto z k) n=((k:Int)==n)from htr];rfl,hB2⟩
def EF{mem:M_}{ρ:Ev.Map}{B N id:Nat}{w:World}{ks:List CK}{r:Row}{y:Value}(hm:MemR mem ρ B w)(hid:mem[id]? =some (some (.row ks false r)))(hy:V ρ N (.slice (some ⟨id,0,some 0⟩) r.n 0) y):
  ∃a cap b off,y=.slice a r.n cap∧(0<r.n->a=some ⟨b,off,none⟩∧b<w.heap.size)∧∃v:Nat->Nat->Value,(∀e j k,e<r.n->ks[j]? =some k->w.cell? ⟨b,off+e*ks.length+j,none⟩=some (v e j))∧∀e j k,e<r.n->ks[j]? =some k->CellR (Ev.okB mem ρ w) w k r e j (v e j):=by
 obtain⟨L,hL,hn,hz,_,hrd,_⟩:=hm.blk id _ hid;cases hy with
 |sliceDead _ h2=>rw[hL]at h2;cases h2
 |@slice _ _ _ M a cap _ h2 h3 h4 h5 h6=>
  have hML:M=L:=by rw[hL]at h2;cases h2;rfl
  subst hML;refine⟨a,cap,M.b,M.off,rfl,fun h=>⟨?_,((hrd h).1 rfl).1⟩,?_⟩
  ·rw[h5 h];show some (Loc.adr M 0 0)=_;unfold Loc.adr;rw[Nat.zero_mul,Nat.add_zero]
  ·by_cases hpos:0<r.n
   ·obtain⟨_,hr⟩:=hrd hpos;cases hr with
    |mk v g1 g2=>exact⟨v,g1,g2⟩
   ·exact⟨fun _ _=>unk,fun e j k he=>o_,fun e j k he=>o_⟩
def Ey{ok:Nat->Prop}{w:World}{k:IntKind}{r:Row}{e j:Nat}{y:Value}(h:CellR ok w (.int k) r e j y):y=.int k (r.I e j):=by cases h;rfl
def MV{ρ:Ev.Map}{N:Nat}{k:IntKind}{n:Int}{y:Value}(h:V ρ N (.int k n) y):y=.int k n:=by cases h;rfl
def Oi(B:Nat)(w:World):MemR [] (fun _=>none) B w:=⟨fun id b h=>by simp at h,fun _ _=>rfl,fun i j b h=>by obtain⟨_,_,h1,_⟩:=h;cases h1⟩
def Wi(x:Int):List Int->List Int
 |[]=>[x]
 |y::l=>if x<=y then x::y::l else y::Wi x l
def F9:List Int->List Int
 |[]=>[]
 |x::l=>Wi x (F9 l)
def LP(x:Int):∀l,(Wi x l).Perm (x::l)
 |[]=>.refl _
 |y::l=>by
  unfold Wi;by_cases h:x<=y
  ·rw[AM h]
  ·rw[AL h];exact((LP x l).cons y).trans (.swap x y l)
def EJ:∀l,(F9 l).Perm l
 |[]=>.refl _
 |x::l=>(LP x (F9 l)).trans ((EJ l).cons x)
def Nc(x:Int):∀l:List Int,l.Pairwise (· <= ·)->(Wi x l).Pairwise (· <= ·)
 |[],_=>by simp[Wi]
 |y::l,h=>by
  have h':=List.pairwise_cons.1 h;unfold Wi;by_cases hx:x<=y
  ·rw[AM hx];refine List.pairwise_cons.2 ⟨fun z hz=>?_,h⟩;rcases A8.1 hz with rfl|hz
   ·exact hx
   ·have:=h'.1 z hz;omega
  ·rw[AL hx];refine List.pairwise_cons.2 ⟨fun z hz=>?_,Nc x l h'.2⟩;rcases A8.1 ((LP x l).mem_iff.1 hz)with rfl|hz
   ·omega
   ·exact h'.1 z hz
def Ip:∀l,(F9 l).Pairwise (· <= ·)
 |[]=>.nil
 |x::l=>Nc x (F9 l) (Ip l)
def Q3:∀{l1 l2:List Int},l1.Perm l2->l1.Pairwise (· <= ·)->l2.Pairwise (· <= ·)->l1=l2
 |[],l2,h,_,_=>(List.nil_perm.1 h).symm
 |x::l1,[],h,_,_=>absurd h.length_eq y_
 |x::l1,y::l2,h,h1,h2=>by
  have a1:=List.pairwise_cons.1 h1;have a2:=List.pairwise_cons.1 h2;have m1:x∈y::l2:=h.mem_iff.1 (List.mem_cons_self ..);have m2:y∈x::l1:=h.mem_iff.2 (List.mem_cons_self ..);have e:x=y:=by
   rcases A8.1 m1 with e|m1
   ·exact e
   ·rcases A8.1 m2 with e|m2
    ·exact e.symm
    ·have:=a1.1 y m2;have:=a2.1 x m1;omega
  subst e;rw[Q3 ((List.perm_cons x).1 h) a1.2 a2.2]
def Ad0(l:List Int):l.mergeSort WJ=F9 l:=by
 refine Q3 ((List.mergeSort_perm _ _).trans (EJ l).symm) ?_ (Ip l);have h:=List.pairwise_mergeSort (le:=WJ) (fun a b c h1 h2=>by simp only[WJ,A3]at*;omega) (fun a b=>by simp only[WJ,Bool.or_eq_true,A3];omega) l;exact h.imp (fun h=>by simpa [WJ]using h)
def Du(a:Row)(n:Int):Bool:= !Ag (fun j=>((F9 (upto (fun j=>a.I j 0) a.n)).getD j 0) !=(j:Int)) a.n 0&&((a.n:Int)==n)
def Us(a:Row)(n:Int):Du a n=xZ (upto (fun j=>a.I j 0) a.n) n:=by
 unfold Du xZ;rw[Ad0,upto_length]
def Ab8:Den Tryz.prog 129 (FAs (fun a _=>decide (a.n<=1000000)) Du):=by
 intro wb ds rs hF w hbw args vs mem ρ hfrom hm hl hva;unfold FAs at hF;split at hF
 ·rename_i a n;simp only[A5,A6,A3]at hF;obtain⟨h0,rfl⟩:=hF;have e1:vs=[S_ 0 0 a.n,.int .i64 n]∧mem=[Au Ar a]:=by
   have:AU false [D.slice Ar a,D.v (.int .i64 n)] []=some ([S_ 0 0 a.n,.int .i64 n],[Au Ar a]):=rfl;rw[this]at hfrom;simp only[A5,A6]at hfrom;exact⟨hfrom.1.symm,hfrom.2.symm⟩
  obtain⟨rfl,rfl⟩:=e1
  match args,hl with
  |[a1,a2],_=>
  have v1:=hva 0 _ _ rfl rfl;have e2:=MV (hva 1 _ _ rfl rfl);subst e2;obtain⟨ad,cap,b,off,rfl,hb,v,q1,q2⟩:=EF (ks:=Ar) (r:=a) hm rfl v1;refine(Nv ad b off a.n cap (fun j=>a.I j 0) n h0 w hb (fun j hj=>?_)).mono fun e w' ⟨he,hb'⟩=>?_
  ·have:=q1 j 0 _ hj rfl;rw[Ey (q2 j 0 _ hj rfl)]at this;rw[<-this];show w.cell? _=w.cell? ⟨b,off+j*1+0,none⟩;rw[Nat.mul_one,Nat.add_zero]
  ·rw[<-Us a n]at he;exact⟨_,he,hb',[.bool _],[],fun _=>none,rfl,Oi _ _,.bool⟩
 ·cases hF
def cO{z:Nat->Int}{n i:Nat}(h:i<n):z i∈upto z n:=List.mem_map.2 ⟨i,List.mem_range.2 h,rfl⟩
def Pi(a:Row)(n:Nat)(h:Du a (n:Int)=true):a.n=n∧∀i,i<n->0<=a.I i 0∧a.I i 0<(n:Int):=by
 rw[Us]at h;unfold xZ at h;rw[A2,Bool.not_eq_true',beq_iff_eq,upto_length]at h;obtain⟨h1,h2⟩:=h;have hn:a.n=n:=o_;refine⟨hn,fun i hi=>?_⟩;have h3:=cO (z:=fun j=>a.I j 0) (n:=a.n) (i:=i) o_;have h4:a.I i 0∈(upto (fun j=>a.I j 0) a.n).mergeSort WJ:=(List.mergeSort_perm _ _).mem_iff.2 h3;obtain⟨j,hj,he⟩:=List.getElem_of_mem h4;have hjn:j<a.n:=by rw[OY,upto_length]at hj;exact hj
 have h5:=anyF_false.1 h1 j (Nat.zero_le _) o_;rw[List.getD_eq_getElem?_getD,AK hj,Option.getD_some,he]at h5;have h6:a.I i 0=(j:Int):=by simpa using h5
 omega
def Agb:Den Tryz.prog 86 (FVl (JV (fun a _=>decide (a.n<=1000000))) (Agc Du) (Kz Du)):=Ac1 Ab8 Pi
def den_rv:Den Tryz.prog 38 (FRv (Lu (JV (fun a _=>decide (a.n<=1000000)))) (LM (Kz Du))):=Abf Agb
end Go.Proofs.YtnljjjghpgdmoaaGreatDoor
namespace Go.Proofs.YtnljjjghpgdmoaaGreatDoor
open Go.Ev Go.Lib Go.RowKit
def BI(x:Nat->Int):Nat->List UInt8
 |0=>[]
 |n+1=>BI x n++(32::itoa (x n))
def FB{x:Nat->Int}(h:∀j,iR (x j)=true):∀n,(BI x n).length<=n*22
 |0=>Nat.zero_le _
 |n+1=>by
  have h1:=FB h n;have h2:=C9 (h n);show(BI x n++(32::itoa (x n))).length<=_;rw[AG,List.length_cons];omega
def U4{w:World}(k:Nat)(os:Array Obj)(b:Option Nat):Lib.OthersKept 5 b w (Go.Sort.grow (w.drewN k) os):=fun g o h _ _=>by
 show(w.heap++os)[g]? =_;have hlt:g<w.heap.size:=by
  rcases Nat.lt_or_ge g w.heap.size with h'|h'
  ·exact h'
  ·rw[Array.getElem?_eq_none h']at h;cases h
 rw[Array.getElem?_append_left hlt];exact h
def Ala(b:Nat)(n:Int)(h:iR n=true):∃s:Y_,Ad s=itoa n∧s.size<=21∧∀w,Wd w->Calls Tryz.prog 65 #[.int .i64 n] w fun e w'=>e=.returned (.string s)∧Below w.heap.size w w'∧Lib.OthersKept 5 (some b) w w':=by
 obtain⟨h1,h2⟩:=iR_iff.1 h;refine⟨txt (itoa n),CB _,by rw[txt_size];exact C9 h,fun w hw=>(Tryz.strconv_Itoa n h1 h2 w hw.pow).mono ?_⟩;rintro e w' ⟨he,k,os,rfl⟩;exact⟨he,PQ w k os,U4 k os _⟩
def Hid(p:Prop):Prop:=p
def Hid.un{p:Prop}(h:Hid p):p:=h
def hid{p:Prop}(h:p):Hid p:=h
set_option maxHeartbeats 4000000 in
set_option maxRecDepth 1000000 in
def LZ(B b:Nat)(L:List UInt8)(word:Y_)(a:Option Addr)(g off n cap:Nat)(x:Nat->Int)(w:World)(hW:∀w',Below B w w'->Wd w')(hI:Lib.IsBuilderF 68 5 B b (Lib.byteCells L) w)(hB:B<=w.heap.size)
  (ha:0<n->a=some ⟨g,off,none⟩) (hx:∀j,iR (x j)=true) (hl:∀w',Below B w w'->Lib.OthersKept 5 (some b) w w'->∀j,j<n->w'.cell? ⟨g,off+j,none⟩=some (.int .i64 (x j)))
  (hlen:L.length+word.size+n*22<=1000000000000):
  Calls Tryz.prog 22 #[.pointer (some ⟨b,0,none⟩),.string word,.slice a n cap] w fun e w'=>e=.returned (.tuple #[])∧Lib.IsBuilderF 68 5 B b (Lib.byteCells (L++Ad word++BI x n++[10])) w'∧Below B w w'∧Lib.OthersKept 5 (some b) w w':=by
 have mx:Tryz.prog.follows .mixedOrders=true:=mixed
 go_enter Tryz.func22,Tryz.ntmps22
 go_wp2_with (first|(go_at_call 19;refine(FW B b L word _ hI ?_ hB).mono ?_))
 ·omega
 rintro e w1 ⟨rfl,hI1,hb1,hk1⟩
 go_wp2
 go_loopw [15] (fun i wr=>∃k:Nat,i=.int .i64 k∧k<=n∧Lib.IsBuilderF 68 5 B b (Lib.byteCells (L++Ad word++BI x k)) wr∧Below B w wr∧Lib.OthersKept 5 (some b) w wr) (fun i _=>n-(RowKit.intOf i).toNat)
 case atStart=>
  exact⟨0,rfl,Nat.zero_le _,by simpa [BI]using hI1,hb1,hk1⟩
 case round=>
  obtain⟨k,rfl,hk,hI2,hb2,hk2⟩:=hrel;by_cases hp:k<n
  ·have ha':=ha o_;subst ha';have hc:=hl _ hb2 hk2 k hp;obtain⟨i0,i1⟩:=iR_iff.1 (hx k)
   go_wp2
   have hle:(L++Ad word++BI x k).length<=2000000000000:=by
    have h1:=FB hx k;have h3:k*22<=n*22:=AH _ hk;have h4:(Ad word).length=word.size:=(AZ word).symm;rw[AG,AG];omega
   have hId:Lib.IsBuilderF 68 5 B b (Lib.byteCells (L++Ad word++BI x k)) wr.drew:=hI2;obtain⟨s,hs1,hs2,hs3⟩:=Ala b (x k) (hx k);obtain⟨Cq,hq1,hq2⟩:∃Cq:World->Prop,(∀v,Cq v->Below B w v∧Lib.OthersKept 5 (some b) w v∧Lib.IsBuilderF 68 5 B b (Lib.byteCells (L++Ad word++BI x k)) v)∧(∀v,Below B w v->Lib.OthersKept 5 (some b) w v->Lib.IsBuilderF 68 5 B b (Lib.byteCells (L++Ad word++BI x k)) v->Cq v):=⟨fun v=>Below B w v∧Lib.OthersKept 5 (some b) w v∧Lib.IsBuilderF 68 5 B b (Lib.byteCells (L++Ad word++BI x k)) v,fun _ h=>h,fun _ h1 h2 h3=>⟨h1,h2,h3⟩⟩;refine BB (C:=Cq) 6 mx k_ (hq2 wr.drew (Below.drew hb2) hk2.drew hId) ?_;have hcall:∀v,Cq v->Calls Tryz.prog 65 #[.int .i64 (x k)] v fun e w'=>e=.returned (.string s)∧Cq w':=fun v hv=>by
    obtain⟨g1,g2,g3⟩:=hq1 v hv;refine(hs3 v (hW v g1)).mono ?_;rintro e w' ⟨he,hb3,hk3⟩;exact⟨he,hq2 _ (g1.trans (hb3.mono (Nat.le_trans hB g1.size))) (g2.trans hk3) (g3.below hb3)⟩
   dsimp only[List.take,List.drop];have hq:=hid hq1;have hcl:=hid hcall;clear hq1 hq2 hcall;refine wpQuiet_step (fun K hK=>?_)
   go_simp
   refine⟨_,fun v hv=>rfl,hK _ ?_⟩;clear hK K;refine wpQuiet_step (fun K hK=>?_)
   go_simp
   refine⟨_,fun v hv=>rfl,hK _ ?_⟩;clear hK K;refine wpQuiet_step (fun K hK=>?_)
   go_simp
   refine⟨_,fun v hv=>rfl,hK _ ?_⟩;clear hK K;refine wpQuiet_step (fun K hK=>?_)
   go_simp
   refine⟨_,fun v hv=>rfl,hK _ ?_⟩;clear hK K;refine wpQuiet_step (fun K hK=>?_)
   go_simp
   refine⟨.string s,fun v hv=>hcl.un v hv,hK _ ?_⟩;clear hK K;refine wpQuiet_step (fun K hK=>?_)
   go_simp
   refine⟨.string (ByteArray.mk #[32]++s),fun v hv=>?_,hK _ ?_⟩
   ·rw[AL (show¬9223372036854775807<1+s.size by omega)];exact⟨rfl,rfl⟩
   clear hK K;refine wpQuiet_nil ?_;intro w5 h5;obtain⟨g1,g2,g3⟩:=hq.un w5 h5;have hB5:B<=w5.heap.size:=Nat.le_trans hB g1.size;have hlen5:(L++Ad word++BI x k).length+(ByteArray.mk #[32]++s).size<=140737488355328:=by
    rw[ByteArray.size_append];show _+(1+_)<=_;omega
   clear hq hcl h5
   go_wp2_with (first|(go_at_call 19;refine(FW B b (L++Ad word++BI x k) _ w5 g3 ?_ hB5).mono ?_))
   ·exact hlen5
   rintro e w6 ⟨rfl,h6,b6,k6⟩
   go_wp2
   go_roundw
   case rel=>
    refine⟨k+1,by go_num,o_,?_,g1.trans b6,g2.trans k6⟩;have e1:Ad (ByteArray.mk #[32]++s)=32::itoa (x k):=by rw[Ei,hs1];rfl
    rw[e1]at h6;rw[show BI x (k+1)=BI x k++(32::itoa (x k))from rfl,<-List.append_assoc];exact h6
   case measure=>
    simp[RowKit.intOf];omega
  ·have hkn:k=n:=o_;subst hkn;have hle:(L++Ad word++BI x k).length<=2000000000000:=by
    have h1:=FB hx k;have h4:(Ad word).length=word.size:=(AZ word).symm;rw[AG,AG];omega
   have hB5:B<=wr.heap.size:=Nat.le_trans hB hb2.size;have hlen5:(L++Ad word++BI x k).length+(ByteArray.mk #[10]).size<=140737488355328:=by
    show _+1<=_;omega
   clear hl
   go_wp2_with (first|(go_at_call 19;refine(FW B b (L++Ad word++BI x k) _ wr hI2 ?_ hB5).mono ?_))
   ·exact hlen5
   rintro e w6 ⟨rfl,h6,b6,k6⟩
   go_wp2
   go_end0
   exact⟨rfl,h6,hb2.trans b6,hk2.trans k6⟩
structure WrI(w2:World)(b:Nat)(L:List UInt8)(w:World):Prop where
 bel:Below b w2 w
 oth:Lib.OthersKept 5 (some b) w2 w
 bld:Lib.IsBuilderF 68 5 b b (Lib.byteCells L) w
def WrI.alloc{w2:World}{b:Nat}{L:List UInt8}{w:World}(h:WrI w2 b L w)(hb:b<=w2.heap.size)(o:Obj):WrI w2 b L (w.alloc o):=
 ⟨h.bel.alloc (Nat.le_trans hb h.bel.size) o,h.oth.alloc o,h.bld.alloc o⟩
def WrI.drew{w2:World}{b:Nat}{L:List UInt8}{w:World}(h:WrI w2 b L w):WrI w2 b L w.drew:=⟨Below.drew h.bel,h.oth.drew,h.bld⟩
def IU{w2:World}{b:Nat}{L:List UInt8}{w:World}(h:WrI w2 b L w)(hW:∀w',Below b w2 w'->Wd w')(hb:b<=w2.heap.size)(word:Y_)(a:Option Addr)(g off n cap:Nat)(x:Nat->Int)
  (ha:0<n->a=some ⟨g,off,none⟩) (hx:∀j,iR (x j)=true) (hg:0<n->g<b) (hc:∀j,j<n->w2.cell? ⟨g,off+j,none⟩=some (.int .i64 (x j))) (hlen:L.length+word.size+n*22<=1000000000000):
  Calls Tryz.prog 22 #[.pointer (some ⟨b,0,none⟩),.string word,.slice a n cap] w fun e w'=>e=.returned (.tuple #[])∧WrI w2 b (L++Ad word++BI x n++[10]) w':=
 (LZ b b L word a g off n cap x w (fun w' h'=>hW w' (h.bel.trans h')) h.bld (Nat.le_trans hb h.bel.size) ha hx (fun w' h1 _ j hj=>by
  rw[(h.bel.trans h1).cell (p:=⟨g,off+j,none⟩) (hg o_)];exact hc j hj) hlen).mono fun e w' ⟨he,h1,h2,h3⟩=>⟨he,h.bel.trans h2,h.oth.trans h3,h1⟩
def GU{w2:World}{b:Nat}{L:List UInt8}{w:World}(h:WrI w2 b L w)(hW:∀w',Below b w2 w'->Wd w')(hb:b<=w2.heap.size)(word:Y_)(g n cap:Nat)(x:Nat->Int)(cs:Array Value)(fr:Nat×Nat)
  (hx:∀j,iR (x j)=true) (hg:g≠b) (ho:w.heap[g]? =some (.cells cs 3 fr)) (hc:∀j,j<n->cs[j]? =some (.int .i64 (x j))) (hlen:L.length+word.size+n*22<=1000000000000):
  Calls Tryz.prog 22 #[.pointer (some ⟨b,0,none⟩),.string word,.slice (some ⟨g,0,none⟩) n cap] w fun e w'=>e=.returned (.tuple #[])∧WrI w2 b (L++Ad word++BI x n++[10]) w':=
 (LZ b b L word _ g 0 n cap x w (fun w' h'=>hW w' (h.bel.trans h')) h.bld (Nat.le_trans hb h.bel.size) (fun _=>rfl) hx (fun w' _ h2 j hj=>by
  have:=h2 g _ ho (fun e=>hg (by simpa using e)) (fun c fz e=>by cases e);show(match w'.heap[g]? with|_=>_)=_
  rw[AE];rw[Lib.cell_of_heap this];exact hc j hj) hlen).mono fun e w' ⟨he,h1,h2,h3⟩=>⟨he,h.bel.trans h2,h.oth.trans h3,h1⟩
def Oa{w2:World}{b:Nat}{L:List UInt8}{w:World}(h:WrI w2 b L w)(hb:b<=w2.heap.size)(s:Y_)(hlen:L.length+s.size<=140737488355328):
  Calls Tryz.prog 19 #[.pointer (some ⟨b,0,none⟩),.string s] w fun e w'=>e=.returned (.tuple #[.int .i64 s.size,.nilIface])∧WrI w2 b (L++Ad s) w':=
 (FW b b L s w h.bld hlen (Nat.le_trans hb h.bel.size)).mono fun e w' ⟨he,h1,h2,h3⟩=>⟨he,h.bel.trans h2,h.oth.trans h3,h1⟩
def sCake:Y_:=⟨⟨[99,97,107,101]⟩⟩
def sGoods:Y_:=⟨⟨[103,111,111,100,115]⟩⟩
def sRent:Y_:=⟨⟨[114,101,110,116]⟩⟩
def sSettle:Y_:=⟨⟨[115,101,116,116,108,101]⟩⟩
def KP{w w':World}(h:Below w.heap.size w w')(b:Option Nat):Lib.OthersKept 5 b w w':=fun k o hk _ _=>by
 have hlt:k<w.heap.size:=by
  rcases Nat.lt_or_ge k w.heap.size with h'|h'
  ·exact h'
  ·rw[Array.getElem?_eq_none h']at hk;cases hk
 rw[h.block k hlt];exact hk
def WrI.step{w2:World}{b:Nat}{L:List UInt8}{w w':World}(h:WrI w2 b L w)(hb:b<=w2.heap.size)(h':Below w.heap.size w w'):WrI w2 b L w':=
 ⟨h.bel.trans (h'.mono (Nat.le_trans hb h.bel.size)),h.oth.trans (KP h' _),h.bld.below h'⟩
noncomputable def CK0:Cx:=AP Tryz.prog fns [] []
def Akf:Be CK0:=Aj enter mixed AX AX
def Ao9:FD
 |[]=>some (true,[.agg [.v (.string sCake),.v (.string sGoods),.v (.string sRent),.v (.string sSettle)]])
 |_=>none
def u57:BH CK0 6 20 []=some [.agg [.v (.string sCake),.v (.string sGoods),.v (.string sRent),.v (.string sSettle)]]:=k_
def Acj:Den Tryz.prog 20 Ao9:=Af Akf fun ds rs h=>by
 unfold Ao9 at h;split at h
 ·cases h;exact u57
 ·cases h
def TW{ρ:Ev.Map}{N:Nat}{s:Y_}{y:Value}(h:V ρ N (.string s) y):y=.string s:=by cases h;rfl
def Oe{w2:World}{b:Nat}{L:List UInt8}{w:World}(h:WrI w2 b L w)(hb:b<=w2.heap.size):Calls Tryz.prog 20 #[] w fun e w'=>e=.returned (.agg #[.string sCake,.string sGoods,.string sRent,.string sSettle])∧WrI w2 b L w':=by
 refine(Acj w [] _ rfl w (Below.refl _ _) [] [] [] (fun _=>none) rfl (Oi _ _) rfl (fun i x c hx=>by simp at hx)).mono fun e w' ⟨cv,he,hb',us,mem',ρ',hf,_,hcv⟩=>?_;have e2:us=[.agg ⟨[.string sCake,.string sGoods,.string sRent,.string sSettle]⟩]:=by
  have:AU true [D.agg [.v (.string sCake),.v (.string sGoods),.v (.string sRent),.v (.string sSettle)]] []=some ([.agg ⟨[.string sCake,.string sGoods,.string sRent,.string sSettle]⟩],[]):=rfl;rw[this]at hf;simp only[A5,A6]at hf;exact hf.1.symm
 subst e2;have hcv:V ρ' mem'.length (.agg ⟨[.string sCake,.string sGoods,.string sRent,.string sSettle]⟩) cv:=hcv;refine⟨?_,h.step hb hb'⟩;rw[he];cases hcv with
 |@agg _ cs hs hc=>
  have hcs:cs= #[.string sCake,.string sGoods,.string sRent,.string sSettle]:=by
   have hs':cs.size=4:=hs.symm;apply Array.ext (by rw[hs'];rfl);intro i h1 h2;have hi:i<4:=o_;have h3:cs[i]? =some cs[i]:=AJ h1
   match i,hi with
   |0,_=>exact TW (hc 0 _ _ rfl h3)
   |1,_=>exact TW (hc 1 _ _ rfl h3)
   |2,_=>exact TW (hc 2 _ _ rfl h3)
   |3,_=>exact TW (hc 3 _ _ rfl h3)
  rw[hcs]
def sDocument:Y_:=⟨⟨[100,111,99,117,109,101,110,116,32]⟩⟩
def sValues:Y_:=⟨⟨[118,97,108,117,101,115]⟩⟩
def sGive:Y_:=⟨⟨[103,105,118,101]⟩⟩
def sClaims:Y_:=⟨⟨[99,108,97,105,109,115]⟩⟩
def sBalances:Y_:=⟨⟨[98,97,108,97,110,99,101,115]⟩⟩
def sPay:Y_:=⟨⟨[112,97,121]⟩⟩
def FM(s:Y_):List UInt8:=Ad sDocument++Ad s++[10]
def EI(word:Y_)(x:Nat->Nat->Int)(n:Nat->Nat):Nat->List UInt8
 |0=>[]
 |k+1=>EI word x n k++(Ad word++BI (x k) (n k)++[10])
def Q8(n:Int):List UInt8:=Ad sClaims++BI (fun _=>n) 1++[10]
def JJ(ec:Int)(t:List UInt8):Y_:=bif ec !=0 then .empty else bif 60000<t.length then .empty else txt t
def JG(ec:Int)(t:List UInt8):Int:=bif ec !=0 then ec else bif 60000<t.length then 4 else 0
def goT(X:Nat->Nat->Int)(rn:Nat->Nat)(gn:Nat)(A:Nat->Int)(an:Nat)(c:Int):List UInt8:=FM sGoods++EI sValues X rn gn++(Ad sGive++BI A an++[10])++Q8 c
def Ig{word:Y_}{x:Nat->Nat->Int}{n:Nat->Nat}(hw:word.size<=100)(hx:∀e j,iR (x e j)=true):∀k,(∀e,e<k->n e<=1000)->(EI word x n k).length<=k*30000
 |0,_=>Nat.zero_le _
 |k+1,h=>by
  have h1:=Ig hw hx k (fun e he=>h e o_);have h2:=FB (hx k) (n k);have h3:=h k o_;have h4:(Ad word).length=word.size:=(AZ word).symm;show(EI word x n k++(Ad word++BI (x k) (n k)++[10])).length<=_;rw[AG,AG,AG,List.length_singleton];omega
def aJ(v:World):(Instr.index 73 (.agg #[.string sCake,.string sGoods,.string sRent,.string sSettle]) (.int .u8 (IntKind.u8.wrap 1))).run Tryz.prog v=.ok (.string sGoods) v:=k_
def VG(v:World):(Instr.index 73 (.agg #[.string sCake,.string sGoods,.string sRent,.string sSettle]) (.int .u8 (IntKind.u8.wrap 3))).run Tryz.prog v=.ok (.string sSettle) v:=k_
def Cj(w:World)(o:Obj):(w.alloc o).heap[w.heap.size]? =some o:=by
 show(w.heap.push o)[w.heap.size]? =_;simp
def Bq(w:World)(o:Obj):w.heap.size<(w.alloc o).heap.size:=by
 show _<(w.heap.push o).size;simp
set_option maxHeartbeats 4000000 in
set_option maxRecDepth 1000000 in
def WY(w:World)(c1 c2 c4 c7 c9 c10 c12 c13:Value)(pc rr ld cl:Int)(ga aa:Option Addr)(gn gc an ac gb goff ab ao:Nat)(ra:Nat->Option Addr)(rb ro rn rcp:Nat->Nat)(X:Nat->Nat->Int)(A:Nat->Int)(ec:Int)
  (hchk:∀w',Below w.heap.size w w'->Calls Tryz.prog 10 #[.agg #[.int .u8 2,c1,c2,.int .u8 pc,c4,.slice ga gn gc,.slice aa an ac,c7,.int .i64 rr,c9,c10,.int .i64 ld,c12,c13,.int .u8 cl]] w' fun e w''=>e=.returned (.int .i64 ec)∧Below w'.heap.size w' w'')
  (hWd:∀w',Below w.heap.size w w'->Wd w')
  (hga:0<gn->ga=some ⟨gb,goff,none⟩) (hgb:0<gn->gb<w.heap.size) (hg:∀e,e<gn->w.cell? ⟨gb,goff+e,none⟩=some (.slice (ra e) (rn e) (rcp e)))
  (hra:∀e,e<gn->0<rn e->ra e=some ⟨rb e,ro e,none⟩∧rb e<w.heap.size) (hr:∀e,e<gn->∀j,j<rn e->w.cell? ⟨rb e,ro e+j,none⟩=some (.int .i64 (X e j)))
  (haa:0<an->aa=some ⟨ab,ao,none⟩∧ab<w.heap.size) (ha:∀j,j<an->w.cell? ⟨ab,ao+j,none⟩=some (.int .i64 (A j)))
  (hX:∀e j,iR (X e j)=true) (hA:∀j,iR (A j)=true) (hl:ec=0->gn<=1000∧(∀e,e<gn->rn e<=1000)∧an<=1000) (hc:ec=0->0<=pc∧pc<=255∧0<=cl∧cl<=255):
  Calls Tryz.prog 6 #[.agg #[.int .u8 2,c1,c2,.int .u8 pc,c4,.slice ga gn gc,.slice aa an ac,c7,.int .i64 rr,c9,c10,.int .i64 ld,c12,c13,.int .u8 cl]] w fun e w'=>e=.returned (.tuple #[.string (JJ ec (goT X rn gn A an (cl+pc))),.int .i64 (JG ec (goT X rn gn A an (cl+pc)))])∧Below w.heap.size w w':=by
 have mx:Tryz.prog.follows .mixedOrders=true:=mixed
 go_enter Tryz.func6,Tryz.ntmps6
 go_wp2_with (first|(go_at_call 10;refine(hchk _ ?_).mono ?_))
 ·exact(Below.refl _ w).alloc (AC _) _
 rintro e w1 ⟨rfl,hb1⟩;by_cases hec:ec=0
 rotate_left
 ·have hec2:(ec !=0)=true:=by simpa using hec
  go_wp2
  go_ret2
  unfold JJ JG;rw[hec2];exact⟨rfl,((Below.refl _ w).alloc (AC _) _).trans (hb1.mono y_)⟩
 ·obtain⟨hl1,hl2,hl3⟩:=hl hec;obtain⟨p0,p1,q0,q1⟩:=hc hec;subst hec;clear hl hc
  go_wp2
  have hb0:Below w.heap.size w w1:=((Below.refl _ w).alloc (AC _) _).trans (hb1.mono (Nat.le_of_lt (Bq w _)));have hN:w.heap.size<w1.heap.size:=Nat.lt_of_lt_of_le (Bq w _) hb1.size;have hbox:w1.heap[w.heap.size]? =some (.cells #[.int .u8 2,c1,c2,.int .u8 pc,c4,.slice ga gn gc,.slice aa an ac,c7,.int .i64 rr,c9,c10,.int .i64 ld,c12,c13,.int .u8 cl] 39 (0,0)):=by
   rw[hb1.block w.heap.size (Bq w _)];exact Cj w _
  obtain⟨w2,hw2⟩:∃w2,w2=w1.alloc (.cells #[.pointer none,.slice none 0 0] 68):=⟨_,rfl⟩;have hI0:WrI w2 w1.heap.size [] w2:=⟨Below.refl _ _,Lib.OthersKept.refl _ _ _,by rw[hw2];exact Lib.IsBuilderF.of (Lib.fresh_isBuilder 68 5 w1)⟩;have hb3:w1.heap.size<w2.heap.size:=by rw[hw2];exact Bq w1 _
  have hb2:w1.heap.size<=w2.heap.size:=by rw[hw2];exact Nat.le_of_lt (Bq w1 _)
  have hbel2:∀k,k<w1.heap.size->w2.heap[k]? =w1.heap[k]? :=fun k hk=>by rw[hw2];exact Below.heap_alloc w1 _ k hk
  have hbox2:∀v,Below w1.heap.size w2 v->v.heap[w.heap.size]? =some (.cells #[.int .u8 2,c1,c2,.int .u8 pc,c4,.slice ga gn gc,.slice aa an ac,c7,.int .i64 rr,c9,c10,.int .i64 ld,c12,c13,.int .u8 cl] 39 (0,0)):=fun v hv=>by
   rw[hv.block _ hN,hbel2 _ hN];exact hbox
  have hbv:∀v,Below w1.heap.size w2 v->Below w.heap.size w v:=fun v hv=>hb0.trans (((Below.refl _ w1).alloc (AC _) _).trans (hw2▸hv)|>.mono o_);have hW2:∀v,Below w1.heap.size w2 v->Wd v:=fun v hv=>hWd v (hbv v hv);rw[<-hw2];clear hw2 hbel2;generalize hbb:w1.heap.size=b at*
  obtain⟨Cq,hq1,hq2⟩:∃Cq:World->Prop,(∀v,Cq v->WrI w2 b [] v)∧∀v,WrI w2 b [] v->Cq v:=⟨fun v=>WrI w2 b [] v,fun _ h=>h,fun _ h=>h⟩;refine BB (C:=Cq) 10 mx k_ (hq2 w2.drew hI0.drew) ?_;have hq:=hid hq1;have hcall:∀v,Cq v->Calls Tryz.prog 20 #[] v fun e w'=>e=.returned (.agg #[.string sCake,.string sGoods,.string sRent,.string sSettle])∧Cq w':=fun v hv=>(Oe (hq1 v hv) hb2).mono fun e w' ⟨he,h⟩=>⟨he,hq2 _ h⟩;have hcl:=hid hcall;have hld:Hid (∀v,Cq v->v.cell? ⟨w.heap.size,0,none⟩=some (.int .u8 2)):=fun v hv=>by rw[Lib.cell_of_heap (hbox2 v (hq1 v hv).bel)];rfl
  have hhg:=hid hg;have hhr:=hid hr;have hha:=hid ha;have hhra:=hid hra;clear hq1 hq2 hcall hg hr ha hra hchk;dsimp only[List.take,List.drop];refine wpQuiet_step (fun K hK=>?_)
  go_simp
  refine⟨_,fun v hv=>rfl,hK _ ?_⟩;clear hK K;refine wpQuiet_step (fun K hK=>?_)
  go_simp
  refine⟨_,fun v hv=>rfl,hK _ ?_⟩;clear hK K;refine wpQuiet_step (fun K hK=>?_)
  go_simp
  refine⟨_,fun v hv=>rfl,hK _ ?_⟩;clear hK K;refine wpQuiet_step (fun K hK=>?_)
  go_simp
  refine⟨.agg #[.string sCake,.string sGoods,.string sRent,.string sSettle],fun v hv=>hcl.un v hv,hK _ ?_⟩;clear hK K;refine wpQuiet_step (fun K hK=>?_)
  go_simp
  refine⟨_,fun v hv=>rfl,hK _ ?_⟩;clear hK K;refine wpQuiet_step (fun K hK=>?_)
  go_simp
  refine⟨.int .u8 2,fun v hv=>?_,hK _ ?_⟩
  ·rw[hld.un v hv];exact⟨rfl,rfl⟩
  clear hK K;refine wpQuiet_step (fun K hK=>?_)
  go_simp
  refine⟨_,fun v hv=>rfl,hK _ ?_⟩;clear hK K;refine wpQuiet_step (fun K hK=>?_)
  go_simp
  refine⟨.string sGoods,fun v hv=>?_,hK _ ?_⟩
  ·rw[aJ v];exact⟨rfl,rfl⟩
  clear hK K;refine wpQuiet_step (fun K hK=>?_)
  go_simp
  refine⟨.string (sDocument++sGoods),fun v hv=>?_,hK _ ?_⟩
  ·rw[AL (show¬9223372036854775807<9+sGoods.size by have:sGoods.size=5:=rfl;omega)];exact⟨rfl,rfl⟩
  clear hK K;refine wpQuiet_step (fun K hK=>?_)
  go_simp
  refine⟨.string (sDocument++sGoods++⟨#[10]⟩),fun v hv=>?_,hK _ ?_⟩
  ·rw[AL (show¬9223372036854775807<sDocument.size+sGoods.size+1 by have:sGoods.size=5:=rfl;have:sDocument.size=9:=rfl;omega)];exact⟨rfl,rfl⟩
  clear hK K;refine wpQuiet_nil ?_;intro w3 h3;have h3':WrI w2 b [] w3:=hq.un w3 h3;have hsz:([]:List UInt8).length+(sDocument++sGoods++⟨#[10]⟩).size<=140737488355328:=d_;have hS:[]++Ad (sDocument++sGoods++⟨#[10]⟩)=FM sGoods:=by rw[Ei,Ei];rfl
  generalize sDocument++sGoods++⟨#[10]⟩=S at*
  clear hq hcl hld h3
  go_wp2_with (first|(go_at_call 19;refine(Oa h3' hb2 S hsz).mono ?_))
  rintro e w4 ⟨rfl,h4⟩;rw[hS]at h4;clear hS hsz h3';have f0:w4.cell? ⟨w.heap.size,0,none⟩=some (.int .u8 2):=by rw[Lib.cell_of_heap (hbox2 w4 h4.bel)];rfl
  have f5:w4.cell? ⟨w.heap.size,5,none⟩=some (.slice ga gn gc):=by rw[Lib.cell_of_heap (hbox2 w4 h4.bel)];rfl
  go_wp2
  have hL:∀k,k<=gn->(FM sGoods++EI sValues X rn k).length<=40000000:=fun k hk=>by
   have h1:=Ig (word:=sValues) d_ hX k (fun e he=>hl2 e o_);have h2:(FM sGoods).length=15:=rfl;have h3:k*30000<=1000*30000:=AH _ o_;rw[AG];omega
  have hold:∀v,Below b w2 v->∀p:Addr,p.block<w.heap.size->v.cell? p=w.cell? p:=fun v hv p hp=>(hbv v hv).cell hp;have hh1:=hid hold;have hh2:=hid hbox2;clear hold hbox2 f0 f5
  go_loopw [43] (fun i wr=>∃k:Nat,i=.int .i64 k∧k<=gn∧WrI w2 b (FM sGoods++EI sValues X rn k) wr) (fun i _=>gn-(RowKit.intOf i).toNat)
  case atStart=>
   exact⟨0,rfl,Nat.zero_le _,by simpa [EI]using h4⟩
  case round=>
   obtain⟨k,rfl,hk,h5⟩:=hrel;by_cases hp:k<gn
   ·have ha':=hga o_;have hgb':=hgb o_;subst ha';have d0:wr.cell? ⟨gb,goff+k,none⟩=some (.slice (ra k) (rn k) (rcp k)):=by
     rw[hh1.un wr h5.bel ⟨gb,goff+k,none⟩ hgb'];exact hhg.un k hp
    have e1:0<rn k->ra k=some ⟨rb k,ro k,none⟩:=fun h=>(hhra.un k hp h).1;have e2:0<rn k->rb k<b:=fun h=>Nat.lt_trans (hhra.un k hp h).2 o_;have e3:Hid (∀j,j<rn k->w2.cell? ⟨rb k,ro k+j,none⟩=some (.int .i64 (X k j))):=fun j hj=>by
     rw[hh1.un w2 (Below.refl _ _) ⟨rb k,ro k+j,none⟩ (hhra.un k hp o_).2];exact hhr.un k hp j hj
    have e4:(FM sGoods++EI sValues X rn k).length+sValues.size+rn k*22<=1000000000000:=by
     have h1:=hL k o_;have h2:=hl2 k hp;have h3:sValues.size=6:=rfl;omega
    go_wp2_with (first|(go_at_call 22;refine(IU h5 hW2 hb2 sValues (ra k) (rb k) (ro k) (rn k) (rcp k) (X k) e1 (hX k) e2 e3 e4).mono ?_;rintro e w6 ⟨rfl,h6⟩))
    go_wp2
    go_roundw
    case rel=>
     refine⟨k+1,by go_num,o_,?_⟩;rw[show EI sValues X rn (k+1)=EI sValues X rn k++(Ad sValues++BI (X k) (rn k)++[10])from rfl];rw[show FM sGoods++(EI sValues X rn k++(Ad sValues++BI (X k) (rn k)++[10]))=FM sGoods++EI sValues X rn k++Ad sValues++BI (X k) (rn k)++[10] by simp only[List.append_assoc]];exact h6
    case measure=>
     simp[RowKit.intOf];omega
   ·have hkn:k=gn:=o_;subst hkn;have f6:wr.cell? ⟨w.heap.size,6,none⟩=some (.slice aa an ac):=by
     rw[Lib.cell_of_heap (hh2.un wr h5.bel)];rfl
    have e1:0<an->aa=some ⟨ab,ao,none⟩:=fun h=>(haa h).1;have e2:0<an->ab<b:=fun h=>Nat.lt_trans (haa h).2 o_;have e3:Hid (∀j,j<an->w2.cell? ⟨ab,ao+j,none⟩=some (.int .i64 (A j))):=fun j hj=>by
     rw[hh1.un w2 (Below.refl _ _) ⟨ab,ao+j,none⟩ (haa o_).2];exact hha.un j hj
    have e4:(FM sGoods++EI sValues X rn k).length+sGive.size+an*22<=1000000000000:=by
     have h1:=hL k o_;have h3:sGive.size=4:=rfl;omega
    have hbx:Hid (∀v L,WrI w2 b L v->v.cell? ⟨w.heap.size,14,none⟩=some (.int .u8 cl)∧v.cell? ⟨w.heap.size,3,none⟩=some (.int .u8 pc)):=fun v L hv=>by
     rw[Lib.cell_of_heap (hh2.un v hv.bel),Lib.cell_of_heap (hh2.un v hv.bel)];exact⟨rfl,rfl⟩
    have i1:∀j:Nat,iR ((fun _:Nat=>cl+pc) j)=true:=fun j=>iR_iff.2 ⟨by dsimp only;omega,by dsimp only;omega⟩;have i2:Hid (∀j,j<1->(#[Value.int .i64 (cl+pc)]:Array Value)[j]? =some (.int .i64 ((fun _:Nat=>cl+pc) j))):=fun j hj=>by
     have:j=0:=o_;subst this;rfl
    have i3:(FM sGoods++EI sValues X rn k++Ad sGive++BI A an++[10]).length+sClaims.size+1*22<=1000000000000:=by
     have h1:=FB hA an;have h2:=hL k o_;have h3:sClaims.size=6:=rfl;have h4:(Ad sGive).length=4:=rfl;rw[AG,AG,AG,List.length_singleton];omega
    clear hL;have f0:=hid hb3;clear hb3
    go_wp2_with (first|(go_at_call 22;refine(IU h5 hW2 hb2 sGive aa ab ao an ac A e1 hA e2 e3 e4).mono ?_))
    rintro e w6 rfl h6;clear e1 e2 e3 e4;obtain⟨L6,hL6⟩:∃L6,L6=FM sGoods++(EI sValues X rn k++(Ad sGive++(BI A an++[10]))):=⟨_,rfl⟩;rw[<-hL6]at h6;have hT2:Hid (L6++Ad sClaims++BI (fun _=>cl+pc) 1++[10]=goT X rn k A an (cl+pc)):=by
     show _=_;rw[hL6];simp only[goT,Q8,List.append_assoc]
    have i3':L6.length+sClaims.size+1*22<=1000000000000:=by
     rw[hL6];simp only[List.append_assoc]at i3;exact i3
    clear i3 hL6;obtain⟨f14,f3⟩:=hbx.un w6 _ h6;have i4:w6.heap.size≠b:=by have:=h6.bel.size;have h:b<w2.heap.size:=f0;omega
    have h6a:=h6.alloc hb2 (.cells #[.int .i64 (cl+pc)] 3);have h6n:Hid ((w6.alloc (.cells #[.int .i64 (cl+pc)] 3)).heap[w6.heap.size]? =some (.cells #[.int .i64 (cl+pc)] 3 (0,0))):=Cj w6 _
    go_wp2_with (first|(go_at_call 22;refine(GU h6a hW2 hb2 sClaims w6.heap.size 1 1 (fun _=>cl+pc) #[.int .i64 (cl+pc)] (0,0) i1 i4 h6n i2 i3').mono ?_))
    rintro e w7 ⟨rfl,h7⟩;obtain⟨T,hT⟩:∃T,T=L6++Ad sClaims++BI (fun _=>cl+pc) 1++[10]:=⟨_,rfl⟩;rw[<-hT]at h7;have hT3:Hid (goT X rn k A an (cl+pc)=T):=by
     show _=_;rw[hT];exact hT2.un.symm
    have hne:T≠[]:=by rw[hT];simp
    have hbz:Below w.heap.size w w7:=hbv w7 h7.bel;clear hT hT2 f14 f3 h6 h6a h6n i1 i2 i3' i4 hbx
    go_wp2_with (first|(go_at_call 23;refine(Si b b T _ h7.bld).mono ?_))
    rintro e w8 ⟨rfl,rfl⟩;have hfin:Hid (∀v,Below b w8 v->Below w.heap.size w v):=fun v hv=>hbz.trans (hv.mono o_);by_cases hbig:60000<T.length
    ·have hdb:decide (60000<T.length)=true:=A4 hbig;have hd2:=hid hdb;clear hdb
     go_wp2
     go_ret2
     rw[show goT X rn k A an (cl+pc)=T from hT3];unfold JJ JG;rw[show decide (60000<T.length)=true from hd2];exact⟨rfl,hbz⟩
    ·have hd2:Hid (decide (60000<T.length)=false):=AB hbig
     go_wp2_with (first|(go_at_call 24;refine(NP b b T _ h7.bld hne).mono ?_))
     rintro e w9 ⟨rfl,h9⟩
     go_wp2
     go_ret2
     rw[show goT X rn k A an (cl+pc)=T from hT3];unfold JJ JG;rw[show decide (60000<T.length)=false from hd2];exact⟨rfl,hfin.un w9 h9⟩
def gW(A:Nat->Int)(an:Nat)(P:Nat->Nat->Int)(pn:Nat)(c:Int):List UInt8:=FM sSettle++(Ad sBalances++BI A an++[10])++EI sPay P (fun _=>3) pn++Q8 c
set_option maxHeartbeats 4000000 in
set_option maxRecDepth 1000000 in
def Vq(w:World)(c1 c2 c4 c5 c6 c7 c9 c10:Value)(pc rr ld cl:Int)(ga aa:Option Addr)(gn gc an ac gb goff ab ao:Nat)(P:Nat->Nat->Int)(A:Nat->Int)(ec:Int)
  (hchk:∀w',Below w.heap.size w w'->Calls Tryz.prog 10 #[.agg #[.int .u8 4,c1,c2,.int .u8 pc,c4,c5,c6,c7,.int .i64 rr,c9,c10,.int .i64 ld,.slice aa an ac,.slice ga gn gc,.int .u8 cl]] w' fun e w''=>e=.returned (.int .i64 ec)∧Below w'.heap.size w' w'')
  (hWd:∀w',Below w.heap.size w w'->Wd w')
  (hga:0<gn->ga=some ⟨gb,goff,none⟩) (hgb:0<gn->gb<w.heap.size) (hg:∀e,e<gn->∀i,i<3->w.cell? ⟨gb,goff+e*3+i,none⟩=some (.int .i64 (P e i)))
  (haa:0<an->aa=some ⟨ab,ao,none⟩∧ab<w.heap.size) (ha:∀j,j<an->w.cell? ⟨ab,ao+j,none⟩=some (.int .i64 (A j)))
  (hX:∀e j,iR (P e j)=true) (hA:∀j,iR (A j)=true) (hl:ec=0->gn<=1000∧an<=1000) (hc:ec=0->0<=pc∧pc<=255∧0<=cl∧cl<=255):
  Calls Tryz.prog 6 #[.agg #[.int .u8 4,c1,c2,.int .u8 pc,c4,c5,c6,c7,.int .i64 rr,c9,c10,.int .i64 ld,.slice aa an ac,.slice ga gn gc,.int .u8 cl]] w fun e w'=>e=.returned (.tuple #[.string (JJ ec (gW A an P gn (cl+pc))),.int .i64 (JG ec (gW A an P gn (cl+pc)))])∧Below w.heap.size w w':=by
 have mx:Tryz.prog.follows .mixedOrders=true:=mixed
 go_enter Tryz.func6,Tryz.ntmps6
 go_wp2_with (first|(go_at_call 10;refine(hchk _ ?_).mono ?_))
 ·exact(Below.refl _ w).alloc (AC _) _
 rintro e w1 ⟨rfl,hb1⟩;by_cases hec:ec=0
 rotate_left
 ·have hec2:(ec !=0)=true:=by simpa using hec
  go_wp2
  go_ret2
  unfold JJ JG;rw[hec2];exact⟨rfl,((Below.refl _ w).alloc (AC _) _).trans (hb1.mono y_)⟩
 ·obtain⟨hl1,hl3⟩:=hl hec;obtain⟨p0,p1,q0,q1⟩:=hc hec;subst hec;clear hl hc
  go_wp2
  have hb0:Below w.heap.size w w1:=((Below.refl _ w).alloc (AC _) _).trans (hb1.mono (Nat.le_of_lt (Bq w _)));have hN:w.heap.size<w1.heap.size:=Nat.lt_of_lt_of_le (Bq w _) hb1.size;have hbox:w1.heap[w.heap.size]? =some (.cells #[.int .u8 4,c1,c2,.int .u8 pc,c4,c5,c6,c7,.int .i64 rr,c9,c10,.int .i64 ld,.slice aa an ac,.slice ga gn gc,.int .u8 cl] 39 (0,0)):=by
   rw[hb1.block w.heap.size (Bq w _)];exact Cj w _
  obtain⟨w2,hw2⟩:∃w2,w2=w1.alloc (.cells #[.pointer none,.slice none 0 0] 68):=⟨_,rfl⟩;have hI0:WrI w2 w1.heap.size [] w2:=⟨Below.refl _ _,Lib.OthersKept.refl _ _ _,by rw[hw2];exact Lib.IsBuilderF.of (Lib.fresh_isBuilder 68 5 w1)⟩;have hb3:w1.heap.size<w2.heap.size:=by rw[hw2];exact Bq w1 _
  have hb2:w1.heap.size<=w2.heap.size:=by rw[hw2];exact Nat.le_of_lt (Bq w1 _)
  have hbel2:∀k,k<w1.heap.size->w2.heap[k]? =w1.heap[k]? :=fun k hk=>by rw[hw2];exact Below.heap_alloc w1 _ k hk
  have hbox2:∀v,Below w1.heap.size w2 v->v.heap[w.heap.size]? =some (.cells #[.int .u8 4,c1,c2,.int .u8 pc,c4,c5,c6,c7,.int .i64 rr,c9,c10,.int .i64 ld,.slice aa an ac,.slice ga gn gc,.int .u8 cl] 39 (0,0)):=fun v hv=>by
   rw[hv.block _ hN,hbel2 _ hN];exact hbox
  have hbv:∀v,Below w1.heap.size w2 v->Below w.heap.size w v:=fun v hv=>hb0.trans (((Below.refl _ w1).alloc (AC _) _).trans (hw2▸hv)|>.mono o_);have hW2:∀v,Below w1.heap.size w2 v->Wd v:=fun v hv=>hWd v (hbv v hv);rw[<-hw2];clear hw2 hbel2;generalize hbb:w1.heap.size=b at*
  obtain⟨Cq,hq1,hq2⟩:∃Cq:World->Prop,(∀v,Cq v->WrI w2 b [] v)∧∀v,WrI w2 b [] v->Cq v:=⟨fun v=>WrI w2 b [] v,fun _ h=>h,fun _ h=>h⟩;refine BB (C:=Cq) 10 mx k_ (hq2 w2.drew hI0.drew) ?_;have hq:=hid hq1;have hcall:∀v,Cq v->Calls Tryz.prog 20 #[] v fun e w'=>e=.returned (.agg #[.string sCake,.string sGoods,.string sRent,.string sSettle])∧Cq w':=fun v hv=>(Oe (hq1 v hv) hb2).mono fun e w' ⟨he,h⟩=>⟨he,hq2 _ h⟩;have hcl:=hid hcall;have hld:Hid (∀v,Cq v->v.cell? ⟨w.heap.size,0,none⟩=some (.int .u8 4)):=fun v hv=>by rw[Lib.cell_of_heap (hbox2 v (hq1 v hv).bel)];rfl
  have hhg:=hid hg;have hha:=hid ha;clear hq1 hq2 hcall hg ha hchk;dsimp only[List.take,List.drop];refine wpQuiet_step (fun K hK=>?_)
  go_simp
  refine⟨_,fun v hv=>rfl,hK _ ?_⟩;clear hK K;refine wpQuiet_step (fun K hK=>?_)
  go_simp
  refine⟨_,fun v hv=>rfl,hK _ ?_⟩;clear hK K;refine wpQuiet_step (fun K hK=>?_)
  go_simp
  refine⟨_,fun v hv=>rfl,hK _ ?_⟩;clear hK K;refine wpQuiet_step (fun K hK=>?_)
  go_simp
  refine⟨.agg #[.string sCake,.string sGoods,.string sRent,.string sSettle],fun v hv=>hcl.un v hv,hK _ ?_⟩;clear hK K;refine wpQuiet_step (fun K hK=>?_)
  go_simp
  refine⟨_,fun v hv=>rfl,hK _ ?_⟩;clear hK K;refine wpQuiet_step (fun K hK=>?_)
  go_simp
  refine⟨.int .u8 4,fun v hv=>?_,hK _ ?_⟩
  ·rw[hld.un v hv];exact⟨rfl,rfl⟩
  clear hK K;refine wpQuiet_step (fun K hK=>?_)
  go_simp
  refine⟨_,fun v hv=>rfl,hK _ ?_⟩;clear hK K;refine wpQuiet_step (fun K hK=>?_)
  go_simp
  refine⟨.string sSettle,fun v hv=>?_,hK _ ?_⟩
  ·rw[VG v];exact⟨rfl,rfl⟩
  clear hK K;refine wpQuiet_step (fun K hK=>?_)
  go_simp
  refine⟨.string (sDocument++sSettle),fun v hv=>?_,hK _ ?_⟩
  ·rw[AL (show¬9223372036854775807<9+sSettle.size by have:sSettle.size=6:=rfl;omega)];exact⟨rfl,rfl⟩
  clear hK K;refine wpQuiet_step (fun K hK=>?_)
  go_simp
  refine⟨.string (sDocument++sSettle++⟨#[10]⟩),fun v hv=>?_,hK _ ?_⟩
  ·rw[AL (show¬9223372036854775807<sDocument.size+sSettle.size+1 by have:sSettle.size=6:=rfl;have:sDocument.size=9:=rfl;omega)];exact⟨rfl,rfl⟩
  clear hK K;refine wpQuiet_nil ?_;intro w3 h3;have h3':WrI w2 b [] w3:=hq.un w3 h3;have hsz:([]:List UInt8).length+(sDocument++sSettle++⟨#[10]⟩).size<=140737488355328:=d_;have hS:[]++Ad (sDocument++sSettle++⟨#[10]⟩)=FM sSettle:=by rw[Ei,Ei];rfl
  generalize sDocument++sSettle++⟨#[10]⟩=S at*
  clear hq hcl hld h3
  go_wp2_with (first|(go_at_call 19;refine(Oa h3' hb2 S hsz).mono ?_))
  rintro e w4 ⟨rfl,h4⟩;rw[hS]at h4;clear hS hsz h3';have f0:w4.cell? ⟨w.heap.size,0,none⟩=some (.int .u8 4):=by rw[Lib.cell_of_heap (hbox2 w4 h4.bel)];rfl
  have f12:w4.cell? ⟨w.heap.size,12,none⟩=some (.slice aa an ac):=by rw[Lib.cell_of_heap (hbox2 w4 h4.bel)];rfl
  have e1:0<an->aa=some ⟨ab,ao,none⟩:=fun h=>(haa h).1;have e2:0<an->ab<b:=fun h=>Nat.lt_trans (haa h).2 o_;have hold:∀v,Below b w2 v->∀p:Addr,p.block<w.heap.size->v.cell? p=w.cell? p:=fun v hv p hp=>(hbv v hv).cell hp;have hh1:=hid hold;have hh2:=hid hbox2;have e3:Hid (∀j,j<an->w2.cell? ⟨ab,ao+j,none⟩=some (.int .i64 (A j))):=fun j hj=>by
   rw[hh1.un w2 (Below.refl _ _) ⟨ab,ao+j,none⟩ (haa o_).2];exact hha.un j hj
  have e4:(FM sSettle).length+sBalances.size+an*22<=1000000000000:=by
   have h2:(FM sSettle).length=16:=rfl;have h3:sBalances.size=8:=rfl;omega
  clear hold hbox2
  go_wp2_with (first|(go_at_call 22;refine(IU h4 hW2 hb2 sBalances aa ab ao an ac A e1 hA e2 e3 e4).mono ?_))
  rintro e w5 ⟨rfl,h5⟩;clear e1 e2 e3 e4 f12 f0;have f13:w5.cell? ⟨w.heap.size,13,none⟩=some (.slice ga gn gc):=by rw[Lib.cell_of_heap (hh2.un w5 h5.bel)];rfl
  obtain⟨L5,hL5⟩:∃L5,L5=FM sSettle++Ad sBalances++BI A an++[10]:=⟨_,rfl⟩;rw[<-hL5]at h5;have hLl:L5.length<=1000000:=by
   have h1:=FB hA an;have h2:(FM sSettle).length=16:=rfl;have h3:(Ad sBalances).length=8:=rfl;rw[hL5,AG,AG,AG,List.length_singleton];omega
  have hL5':Hid (L5=FM sSettle++Ad sBalances++BI A an++[10]):=hL5;clear hL5
  go_wp2
  clear f13
  go_loopw [99] (fun i wr=>∃k:Nat,i=.int .i64 k∧k<=gn∧WrI w2 b (L5++EI sPay P (fun _=>3) k) wr) (fun i _=>gn-(RowKit.intOf i).toNat)
  case atStart=>
   exact⟨0,rfl,Nat.zero_le _,by simpa [EI]using h5⟩
  case round=>
   obtain⟨k,rfl,hk,h6⟩:=hrel;by_cases hp:k<gn
   ·have ha':=hga o_;have hgb':=hgb o_;subst ha';have hd:Hid (∀i,i<3->wr.cell? ⟨gb,goff+k*3+i,none⟩=some (.int .i64 (P k i))):=fun i hi=>by
     rw[hh1.un wr h6.bel ⟨gb,goff+k*3+i,none⟩ hgb'];exact hhg.un k hp i hi
    have d0:wr.cell? ⟨gb,goff+k*3,none⟩=some (.int .i64 (P k 0)):=hd.un 0 o_;have d1:wr.cell? ⟨gb,goff+k*3+1,none⟩=some (.int .i64 (P k 1)):=hd.un 1 o_;have d2:wr.cell? ⟨gb,goff+k*3+2,none⟩=some (.int .i64 (P k 2)):=hd.un 2 o_;have h6a:=(h6.alloc hb2 (.cells #[.int .i64 (P k 0),.int .i64 (P k 1),.int .i64 (P k 2)] 78)).alloc hb2 (.cells #[.int .i64 (P k 0),.int .i64 (P k 1),.int .i64 (P k 2)] 3);have hs1:(wr.alloc (.cells #[.int .i64 (P k 0),.int .i64 (P k 1),.int .i64 (P k 2)] 78)).heap.size=wr.heap.size+1:=by
     show(wr.heap.push _).size=_;simp
    have h6n:Hid (((wr.alloc (.cells #[.int .i64 (P k 0),.int .i64 (P k 1),.int .i64 (P k 2)] 78)).alloc (.cells #[.int .i64 (P k 0),.int .i64 (P k 1),.int .i64 (P k 2)] 3)).heap[wr.heap.size+1]? =some (.cells #[.int .i64 (P k 0),.int .i64 (P k 1),.int .i64 (P k 2)] 3 (0,0))):=by
     have:=Cj (wr.alloc (.cells #[.int .i64 (P k 0),.int .i64 (P k 1),.int .i64 (P k 2)] 78)) (.cells #[.int .i64 (P k 0),.int .i64 (P k 1),.int .i64 (P k 2)] 3);rw[hs1]at this;exact this
    have i4:wr.heap.size+1≠b:=by have:=h6.bel.size;omega
    have i2:Hid (∀j,j<3->(#[Value.int .i64 (P k 0),Value.int .i64 (P k 1),Value.int .i64 (P k 2)]:Array Value)[j]? =some (.int .i64 (P k j))):=fun j hj=>by
     match j,hj with
     |0,_=>rfl
     |1,_=>rfl
     |2,_=>rfl
    have i3:(L5++EI sPay P (fun _=>3) k).length+sPay.size+3*22<=1000000000000:=by
     have h1:=Ig (word:=sPay) d_ hX k (n:=fun _=>3) (fun e he=>(by show(3:Nat)<=1000;omega));have h2:k*30000<=1000*30000:=AH _ o_;have h3:sPay.size=3:=rfl;rw[AG];omega
    clear hs1
    go_wp2_with (first|(go_at_call 22;refine(GU h6a hW2 hb2 sPay (wr.heap.size+1) 3 3 (P k) #[.int .i64 (P k 0),.int .i64 (P k 1),.int .i64 (P k 2)] (0,0) (hX k) i4 h6n i2 i3).mono ?_))
    rintro e w7 rfl h7;clear h6n h6a i4 i2 i3
    go_wp2
    go_roundw
    case rel=>
     refine⟨k+1,by go_num,o_,?_⟩;rw[show EI sPay P (fun _=>3) (k+1)=EI sPay P (fun _=>3) k++(Ad sPay++BI (P k) 3++[10])from rfl];simpa only[List.append_assoc]using h7
    case measure=>
     simp[RowKit.intOf];omega
   ·have hkn:k=gn:=o_;subst hkn;have hbx:Hid (∀v L,WrI w2 b L v->v.cell? ⟨w.heap.size,14,none⟩=some (.int .u8 cl)∧v.cell? ⟨w.heap.size,3,none⟩=some (.int .u8 pc)):=fun v L hv=>by
     rw[Lib.cell_of_heap (hh2.un v hv.bel),Lib.cell_of_heap (hh2.un v hv.bel)];exact⟨rfl,rfl⟩
    have i1:∀j:Nat,iR ((fun _:Nat=>cl+pc) j)=true:=fun j=>iR_iff.2 ⟨by dsimp only;omega,by dsimp only;omega⟩;have i2:Hid (∀j,j<1->(#[Value.int .i64 (cl+pc)]:Array Value)[j]? =some (.int .i64 ((fun _:Nat=>cl+pc) j))):=fun j hj=>by
     have:j=0:=o_;subst this;rfl
    obtain⟨L6,hL6⟩:∃L6,L6=L5++EI sPay P (fun _=>3) k:=⟨_,rfl⟩;rw[<-hL6]at h6;have hT2:Hid (L6++Ad sClaims++BI (fun _=>cl+pc) 1++[10]=gW A an P k (cl+pc)):=by
     show _=_;rw[hL6,show L5=FM sSettle++Ad sBalances++BI A an++[10]from hL5'];simp only[gW,Q8,List.append_assoc]
    have i3':L6.length+sClaims.size+1*22<=1000000000000:=by
     have h1:=Ig (word:=sPay) d_ hX k (n:=fun _=>3) (fun e he=>(by show(3:Nat)<=1000;omega));have h2:k*30000<=1000*30000:=AH _ o_;have h3:sClaims.size=6:=rfl;rw[hL6,AG];omega
    have f0:=hid hb3;clear hb3 hL6;obtain⟨f14,f3⟩:=hbx.un wr _ h6;have i4:wr.heap.size≠b:=by have:=h6.bel.size;have h:b<w2.heap.size:=f0;omega
    have h6a:=h6.alloc hb2 (.cells #[.int .i64 (cl+pc)] 3);have h6n:Hid ((wr.alloc (.cells #[.int .i64 (cl+pc)] 3)).heap[wr.heap.size]? =some (.cells #[.int .i64 (cl+pc)] 3 (0,0))):=Cj wr _
    go_wp2_with (first|(go_at_call 22;refine(GU h6a hW2 hb2 sClaims wr.heap.size 1 1 (fun _=>cl+pc) #[.int .i64 (cl+pc)] (0,0) i1 i4 h6n i2 i3').mono ?_))
    rintro e w7 rfl h7;replace h7:WrI w2 b (L6++Ad sClaims++BI (fun _=>cl+pc) 1++[10]) w7:=by simpa only[List.append_assoc]using h7
    obtain⟨T,hT⟩:∃T,T=L6++Ad sClaims++BI (fun _=>cl+pc) 1++[10]:=⟨_,rfl⟩;rw[<-hT]at h7;have hT3:Hid (gW A an P k (cl+pc)=T):=by
     show _=_;rw[hT];exact hT2.un.symm
    have hne:T≠[]:=by rw[hT];simp
    have hbz:Below w.heap.size w w7:=hbv w7 h7.bel;clear hT hT2 f14 f3 h6 h6a h6n i1 i2 i3' i4 hbx
    go_wp2_with (first|(go_at_call 23;refine(Si b b T _ h7.bld).mono ?_))
    rintro e w8 ⟨rfl,rfl⟩;have hfin:Hid (∀v,Below b w8 v->Below w.heap.size w v):=fun v hv=>hbz.trans (hv.mono o_);by_cases hbig:60000<T.length
    ·have hdb:decide (60000<T.length)=true:=A4 hbig;have hd2:=hid hdb;clear hdb
     go_wp2
     go_ret2
     rw[show gW A an P k (cl+pc)=T from hT3];unfold JJ JG;rw[show decide (60000<T.length)=true from hd2];exact⟨rfl,hbz⟩
    ·have hd2:Hid (decide (60000<T.length)=false):=AB hbig
     go_wp2_with (first|(go_at_call 24;refine(NP b b T _ h7.bld hne).mono ?_))
     rintro e w9 ⟨rfl,h9⟩
     go_wp2
     go_ret2
     rw[show gW A an P k (cl+pc)=T from hT3];unfold JJ JG;rw[show decide (60000<T.length)=false from hd2];exact⟨rfl,hfin.un w9 h9⟩
end Go.Proofs.YtnljjjghpgdmoaaGreatDoor

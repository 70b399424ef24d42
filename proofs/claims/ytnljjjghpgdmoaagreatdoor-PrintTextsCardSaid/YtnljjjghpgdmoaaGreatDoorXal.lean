/- A part of the proof of PrintTexts. No conditions. -/
import Derived.Test.YtnljjjghpgdmoaaGreatDoorXak
import Derived.Deep.RegionHeld3
import Derived.Deep.AppendLies
import Derived.Maps.AppendAt
set_option linter.all false
namespace Go.Proofs.YtnljjjghpgdmoaaGreatDoor
open Go.Ev
set_option maxRecDepth 100000
structure Dc where
 k:Int
 ca:Row
 pi:Row
 pc:Int
 wo:Row
 gv:Row
 aa:Row
 fv:Row
 rr:Int
 lr:Row
 lp:Row
 ld:Int
 ba:Row
 pa:Row
 cl:Int
def Dc.D(x:Dc):D:=TR x.k x.ca x.pi x.pc x.wo x.gv x.aa x.fv x.rr x.lr x.lp x.ld x.ba x.pa x.cl
def Fe:D->Option Dc
 |.agg [.v (.int .u8 k),.slice [.int .i64,.slice [.int .i64],.slice [.int .i64]] ca,.slice [.slice [.int .i64,.int .i64,.int .i64,.int .i64]] pi,.v (.int .u8 pc),.slice [.slice [.int .i64,.int .i64]] wo,.slice [.slice [.int .i64]] gv,.slice [.int .i64] aa,.slice [.slice [.int .i64]] fv,.v (.int .i64 rr),.slice [.int .i64] lr,.slice [.int .i64] lp,.v (.int .i64 ld),.slice [.int .i64] ba,.slice [.int .i64,.int .i64,.int .i64] pa,.v (.int .u8 cl)]=>some ⟨k,ca,pi,pc,wo,gv,aa,fv,rr,lr,lp,ld,ba,pa,cl⟩
 |_=>none
def CZ{d:D}{x:Dc}(h:Fe d=some x):d=x.D:=by
 unfold Fe at h;split at h
 ·cases h;rfl
 ·cases h
def pb(o:Row)(k:Int):Row:=(w_ o 0 o.n).app (w_ ((Row.zeros 1).setI 0 0 k) 0 1)
def fin(o:Row):Row:=match o with|.nil=>.nil|.mk n I B S R=>w_ (.mk n I B S R) 0 n
def pT4(ba pa o:Row):OD:=br (decide ((ba.n:Int)>0)) (some [.slice [.int .u8] (fin (pb o 4))]) (br (decide ((pa.n:Int)>0)) (some [.slice [.int .u8] (fin (pb o 4))]) (some [.slice [.int .u8] (fin o)]))
def pT3(fv:Row)(rr:Int)(lr lp:Row)(ld:Int)(t:Row->OD)(o:Row):OD:=br (decide ((fv.n:Int)>0)) (t (pb o 3)) (br (rr !=0) (t (pb o 3)) (br (decide ((lr.n:Int)>0)) (t (pb o 3)) (br (decide ((lp.n:Int)>0)) (t (pb o 3)) (br (ld !=0) (t (pb o 3)) (t o)))))
def pT2(gv aa:Row)(t:Row->OD)(o:Row):OD:=br (decide ((gv.n:Int)>0)) (t (pb o 2)) (br (decide ((aa.n:Int)>0)) (t (pb o 2)) (t o))
def pT1(ca pi:Row)(pc:Int)(wo:Row)(t:Row->OD)(o:Row):OD:=br (decide ((ca.n:Int)>0)) (t (pb o 1)) (br (decide ((pi.n:Int)>0)) (t (pb o 1)) (br (decide ((wo.n:Int)>0)) (t (pb o 1)) (br (pc !=0) (t (pb o 1)) (t o))))
noncomputable def C0:Cx:=AP Tryz.prog fns [] []
def JF:Be C0:=Aj enter mixed AX AX
def u29(k:Int)(ca pi:Row)(pc:Int)(wo gv aa fv:Row)(rr:Int)(lr lp:Row)(ld:Int)(ba pa:Row)(cl:Int):BH C0 6 31 [TR k ca pi pc wo gv aa fv rr lr lp ld ba pa cl]=pT1 ca pi pc wo (pT2 gv aa (pT3 fv rr lr lp ld (pT4 ba pa))) .nil:=k_
def fC(x:Dc):Bool:=decide ((x.ca.n:Int)>0)||(decide ((x.pi.n:Int)>0)||(decide ((x.wo.n:Int)>0)||x.pc !=0))
def fG(x:Dc):Bool:=decide ((x.gv.n:Int)>0)||decide ((x.aa.n:Int)>0)
def fR(x:Dc):Bool:=decide ((x.fv.n:Int)>0)||(x.rr !=0||(decide ((x.lr.n:Int)>0)||(decide ((x.lp.n:Int)>0)||x.ld !=0)))
def fS(x:Dc):Bool:=decide ((x.ba.n:Int)>0)||decide ((x.pa.n:Int)>0)
def paO(c g r s:Bool):Row:=
 let a:=bif c then pb .nil 1 else .nil
 let b:=bif g then pb a 2 else a
 let d:=bif r then pb b 3 else b
 bif s then pb d 4 else d
def TK(x:Dc):Row:=fin (paO (fC x) (fG x) (fR x) (fS x))
def Aho:FD
 |[d]=>match Fe d with
  |some x=>some (true,[.slice [.int .u8] (TK x)])
  |none=>none
 |_=>none
def den_par:Den Tryz.prog 31 Aho:=Af JF fun ds rs h=>by
 unfold Aho at h;split at h
 ·split at h
  ·rename_i x hx;simp only[A5,A6,true_and]at h;subst h;rw[CZ hx];refine(u29 x.k x.ca x.pi x.pc x.wo x.gv x.aa x.fv x.rr x.lr x.lp x.ld x.ba x.pa x.cl).trans ?_;unfold pT1 pT2 pT3 pT4 TK fC fG fR fS paO;simp only[<-Fz];generalize(decide ((x.ca.n:Int)>0)||(decide ((x.pi.n:Int)>0)||(decide ((x.wo.n:Int)>0)||x.pc !=0)))=f1;generalize(decide ((x.gv.n:Int)>0)||decide ((x.aa.n:Int)>0))=f2;generalize(decide ((x.fv.n:Int)>0)||(x.rr !=0||(decide ((x.lr.n:Int)>0)||(decide ((x.lp.n:Int)>0)||x.ld !=0))))=f3;generalize(decide ((x.ba.n:Int)>0)||decide ((x.pa.n:Int)>0))=f4;cases f1<;>cases f2<;>cases f3<;>cases f4<;>rfl
  ·cases h
 ·cases h
def TF(k:Int)(x:Dc):Bool:=Ag (fun j=>(TK x).I j 0 !=k) (TK x).n 0
def SY(k:Int)(x:Dc):TF k x=((fC x&&(1:Int) !=k)||((fG x&&(2:Int) !=k)||((fR x&&(3:Int) !=k)||((fS x&&(4:Int) !=k)||false)))):=by
 unfold TF TK;cases fC x<;>cases fG x<;>cases fR x<;>cases fS x<;>rfl
def FGu(c:Row->Bool)(o:Row->Row)(e:Row->Int):FD
 |[.slice [.int .i64] b]=>some (c b,[.slice [.int .i64] (o b),.v (i64 (e b))])
 |_=>none
def FLc(e:Int->Row->Int):FD
 |[.v (.int .i64 n),.slice [.int .i64,.int .i64,.int .i64] b]=>some (true,[.v (i64 (e n b))])
 |_=>none
structure Ck where
 sc:Row->Int->Bool
 sb:Row->Int->Bool
 pcc:Row->Row->Bool
 pcE:Row->Row->Int
 rcc:Row->Int->Bool
 rcE:Row->Int->Int
 rvc:Row->Int->Row->Row->Int->Bool
 rvE:Row->Int->Row->Row->Int->Int
 guc:Row->Bool
 guO:Row->Row
 guE:Row->Int
 lcE:Int->Row->Int
def xE:Dl:={τ:=pu 1++[.v (.c (.pointer (some ⟨0,0,some 0⟩)))]++pu 24++[.v (.sl 1),.v (.int .i64),.v (.int .i64)]++pu 84,saved:=[[]],mem:=[.box [.v (.int .u8),.v (.sl 2),.v (.sl 3),.v (.int .u8),.v (.sl 4),.v (.sl 5),.v (.sl 6),.v (.sl 7),.v (.int .i64),.v (.sl 8),.v (.sl 9),.v (.int .i64),.v (.sl 10),.v (.sl 11),.v (.int .u8)],.row [.int .u8] true,.row DV false,.row Fh false,.row Es false,.row Cc false,.row Ar false,.row Cc false,.row Ar false,.row Ar false,.row Ar false,.row Ht false]}
structure A_l13 where
 n:Nat
 len:Int
 j:Int
 k:Int
 can:Nat
 pin:Nat
 pc:Int
 won:Nat
 gvn:Nat
 aan:Nat
 fvn:Nat
 rr:Int
 lrn:Nat
 lpn:Nat
 ld:Int
 ban:Nat
 pan:Nat
 cl:Int
 p:Row
 ca:Row
 pi:Row
 wo:Row
 gv:Row
 aa:Row
 fv:Row
 lr:Row
 lp:Row
 ba:Row
 pa:Row
def gY(its:List It):Option A_l13:=match its with|[.n n,.i len,.i j,.i k,.n can,.n pin,.i pc,.n won,.n gvn,.n aan,.n fvn,.i rr,.n lrn,.n lpn,.i ld,.n ban,.n pan,.i cl,.r p,.r ca,.r pi,.r wo,.r gv,.r aa,.r fv,.r lr,.r lp,.r ba,.r pa]=>some ⟨n,len,j,k,can,pin,pc,won,gvn,aan,fvn,rr,lrn,lpn,ld,ban,pan,cl,p,ca,pi,wo,gv,aa,fv,lr,lp,ba,pa⟩|_=>none
def Ur(x:A_l13):Bool:=x.j=0∧x.len=x.n∧x.n<=1000
def c_l13_iff{x:A_l13}:=@Bl _ Ur _ _ rfl x
def l13:ScanL A_l13:=⟨10,4,[1,26,27,28],[1,2],xE,gY,fun x j=>[.n x.n,.i (x.n:Int),.i (j:Int),.i x.k,.n x.can,.n x.pin,.i x.pc,.n x.won,.n x.gvn,.n x.aan,.n x.fvn,.i x.rr,.n x.lrn,.n x.lpn,.i x.ld,.n x.ban,.n x.pan,.i x.cl,.r x.p,.r x.ca,.r x.pi,.r x.wo,.r x.gv,.r x.aa,.r x.fv,.r x.lr,.r x.lp,.r x.ba,.r x.pa],fun x=>x.n,Ur,fun x j=>x.p.I j 0 !=x.k,fun x j K=>K .ret ⟨us 1++[.pointer (some ⟨0,0,some 0⟩),i64 8]++us 110,[[]],[some (.box [.int .u8 x.k,S_ 1 0 x.can,S_ 2 0 x.pin,.int .u8 x.pc,S_ 3 0 x.won,S_ 4 0 x.gvn,S_ 5 0 x.aan,S_ 6 0 x.fvn,i64 x.rr,S_ 7 0 x.lrn,S_ 8 0 x.lpn,i64 x.ld,S_ 9 0 x.ban,S_ 10 0 x.pan,.int .u8 x.cl]),Au DV x.ca,Au Fh x.pi,Au Es x.wo,Au Cc x.gv,Au Ar x.aa,Au Cc x.fv,Au Ar x.lr,Au Ar x.lp,Au Ar x.ba,Au Ht x.pa]⟩,fun x K=>K (.exit 0) ⟨us 1++[.pointer (some ⟨0,0,some 0⟩)]++us 111,[[]],[some (.box [.int .u8 x.k,S_ 1 0 x.can,S_ 2 0 x.pin,.int .u8 x.pc,S_ 3 0 x.won,S_ 4 0 x.gvn,S_ 5 0 x.aan,S_ 6 0 x.fvn,i64 x.rr,S_ 7 0 x.lrn,S_ 8 0 x.lpn,i64 x.ld,S_ 9 0 x.ban,S_ 10 0 x.pan,.int .u8 x.cl]),Au DV x.ca,Au Fh x.pi,Au Es x.wo,Au Cc x.gv,Au Ar x.aa,Au Cc x.fv,Au Ar x.lr,Au Ar x.lp,Au Ar x.ba,Au Ht x.pa]⟩⟩
noncomputable def C13(sc sb:Row->Int->Bool)(pcc:Row->Row->Bool)(pcE:Row->Row->Int)(rcc:Row->Int->Bool)(rcE:Row->Int->Int)(rvc:Row->Int->Row->Row->Int->Bool)(rvE:Row->Int->Row->Row->Int->Int)(guc:Row->Bool)(guO:Row->Row)(guE:Row->Int)(lcE:Int->Row->Int):Cx:=AP Tryz.prog fns [(33,FSq sc sb),(32,FPc pcc pcE),(37,yS rcc rcE),(38,FRv rvc rvE),(39,FGu guc guO guE),(40,FLc lcE),(35,Fchk),(36,nJ),(34,Akj),(31,Aho)] [l13.C]
def Adg(sc sb:Row->Int->Bool)(pcc:Row->Row->Bool)(pcE:Row->Row->Int)(rcc:Row->Int->Bool)(rcE:Row->Int->Int)(rvc:Row->Int->Row->Row->Int->Bool)(rvE:Row->Int->Row->Row->Int->Int)(guc:Row->Bool)(guO:Row->Row)(guE:Row->Int)(lcE:Int->Row->Int)(R:St->OD)(K:X->St->OD)(q n:Nat)(len j k:Int)(can pin:Nat)(pc:Int)(won gvn aan fvn:Nat)(rr:Int)(lrn lpn:Nat)(ld:Int)(ban pan:Nat)(cl:Int)(p ca pi wo gv aa fv lr lp ba pa:Row):Ak (C13 sc sb pcc pcE rcc rcE rvc rvE guc guO guE lcE) 10 4 q (bst xE [.n n,.i len,.i j,.i k,.n can,.n pin,.i pc,.n won,.n gvn,.n aan,.n fvn,.i rr,.n lrn,.n lpn,.i ld,.n ban,.n pan,.i cl,.r p,.r ca,.r pi,.r wo,.r gv,.r aa,.r fv,.r lr,.r lp,.r ba,.r pa]) (BF [1,26,27,28] (some [1,2]) R K)=br (j<len) (br (0<=j&&j<(n:Int)) (br (p.I (0+j.toNat) 0 !=k) (l13.Kb ⟨n,len,j,k,can,pin,pc,won,gvn,aan,fvn,rr,lrn,lpn,ld,ban,pan,cl,p,ca,pi,wo,gv,aa,fv,lr,lp,ba,pa⟩ 0 K) (R (bst xE [.n n,.i len,.i (IntKind.i64.wrap (j+1)),.i k,.n can,.n pin,.i pc,.n won,.n gvn,.n aan,.n fvn,.i rr,.n lrn,.n lpn,.i ld,.n ban,.n pan,.i cl,.r p,.r ca,.r pi,.r wo,.r gv,.r aa,.r fv,.r lr,.r lp,.r ba,.r pa]))) none) (l13.Ke ⟨n,len,j,k,can,pin,pc,won,gvn,aan,fvn,rr,lrn,lpn,ld,ban,pan,cl,p,ca,pi,wo,gv,aa,fv,lr,lp,ba,pa⟩ K):=k_
def u13(sc sb:Row->Int->Bool)(pcc:Row->Row->Bool)(pcE:Row->Row->Int)(rcc:Row->Int->Bool)(rcE:Row->Int->Int)(rvc:Row->Int->Row->Row->Int->Bool)(rvE:Row->Int->Row->Row->Int->Int)(guc:Row->Bool)(guO:Row->Row)(guE:Row->Int)(lcE:Int->Row->Int)(k:Int)(ca pi:Row)(pc:Int)(wo gv aa fv:Row)(rr:Int)(lr lp:Row)(ld:Int)(ba pa:Row)(cl:Int):BH (C13 sc sb pcc pcE rcc rcE rvc rvE guc guO guE lcE) 6 10 [TR k ca pi pc wo gv aa fv rr lr lp ld ba pa cl]=br (k<1) (some [.v (i64 8)]) (br (k>4) (some [.v (i64 8)]) (br (k==1) (br (cl !=0) (some [.v (i64 8)]) (br (Ur (⟨(TK (⟨k,w_ ca 0 ca.n,w_ pi 0 pi.n,pc,w_ wo 0 wo.n,w_ gv 0 gv.n,w_ aa 0 aa.n,w_ fv 0 fv.n,rr,w_ lr 0 lr.n,w_ lp 0 lp.n,ld,w_ ba 0 ba.n,w_ pa 0 pa.n,cl⟩:Dc)).n,(↑(TK (⟨k,w_ ca 0 ca.n,w_ pi 0 pi.n,pc,w_ wo 0 wo.n,w_ gv 0 gv.n,w_ aa 0 aa.n,w_ fv 0 fv.n,rr,w_ lr 0 lr.n,w_ lp 0 lp.n,ld,w_ ba 0 ba.n,w_ pa 0 pa.n,cl⟩:Dc)).n:Int),0,k,ca.n,pi.n,pc,wo.n,gv.n,aa.n,fv.n,rr,lr.n,lp.n,ld,ba.n,pa.n,cl,TK (⟨k,w_ ca 0 ca.n,w_ pi 0 pi.n,pc,w_ wo 0 wo.n,w_ gv 0 gv.n,w_ aa 0 aa.n,w_ fv 0 fv.n,rr,w_ lr 0 lr.n,w_ lp 0 lp.n,ld,w_ ba 0 ba.n,w_ pa 0 pa.n,cl⟩:Dc),ca,pi,wo,gv,aa,fv,lr,lp,ba,pa⟩:A_l13)) (br (Ag (fun j=>(TK (⟨k,w_ ca 0 ca.n,w_ pi 0 pi.n,pc,w_ wo 0 wo.n,w_ gv 0 gv.n,w_ aa 0 aa.n,w_ fv 0 fv.n,rr,w_ lr 0 lr.n,w_ lp 0 lp.n,ld,w_ ba 0 ba.n,w_ pa 0 pa.n,cl⟩:Dc)).I j 0 !=k) (TK (⟨k,w_ ca 0 ca.n,w_ pi 0 pi.n,pc,w_ wo 0 wo.n,w_ gv 0 gv.n,w_ aa 0 aa.n,w_ fv 0 fv.n,rr,w_ lr 0 lr.n,w_ lp 0 lp.n,ld,w_ ba 0 ba.n,w_ pa 0 pa.n,cl⟩:Dc)).n 0) (some [.v (i64 8)]) (br (k==1) (br (pcc (w_ ca 0 ca.n) (w_ pi 0 pi.n)) (br (pc<=31) (br (sc (w_ wo 0 wo.n) (ca.n:Int)) (br (pcE (w_ ca 0 ca.n) (w_ pi 0 pi.n)==0) (br (!sb (w_ wo 0 wo.n) (ca.n:Int)) (some [.v (i64 8)]) (some [.v (i64 (pcE (w_ ca 0 ca.n) (w_ pi 0 pi.n)))])) (some [.v (i64 (pcE (w_ ca 0 ca.n) (w_ pi 0 pi.n)))])) none) (br (pcE (w_ ca 0 ca.n) (w_ pi 0 pi.n)==0) (some [.v (i64 8)]) (some [.v (i64 (pcE (w_ ca 0 ca.n) (w_ pi 0 pi.n)))]))) none) (br (k==2) (br ((w_ gv 0 gv.n).n<=1000000) (br (decide ((w_ gv 0 gv.n).n<=1000000∧(w_ aa 0 aa.n).n<=1000000)) (br (Ef (w_ (((Row.zeros 2).setI 0 0 (chkE (w_ gv 0 gv.n))).setI 1 0 (Gz (w_ gv 0 gv.n) (w_ aa 0 aa.n))) 0 2)==0) (br (!decide (cl<=31)) (some [.v (i64 8)]) (some [.v (i64 (Ef (w_ (((Row.zeros 2).setI 0 0 (chkE (w_ gv 0 gv.n))).setI 1 0 (Gz (w_ gv 0 gv.n) (w_ aa 0 aa.n))) 0 2)))])) (some [.v (i64 (Ef (w_ (((Row.zeros 2).setI 0 0 (chkE (w_ gv 0 gv.n))).setI 1 0 (Gz (w_ gv 0 gv.n) (w_ aa 0 aa.n))) 0 2)))])) none) none) (br (k==3) (br (rcc (w_ fv 0 fv.n) rr) (br (rvc (w_ fv 0 fv.n) rr (w_ lr 0 lr.n) (w_ lp 0 lp.n) ld) (br (Ef (w_ (((Row.zeros 2).setI 0 0 (rcE (w_ fv 0 fv.n) rr)).setI 1 0 (rvE (w_ fv 0 fv.n) rr (w_ lr 0 lr.n) (w_ lp 0 lp.n) ld)) 0 2)==0) (br (!decide (cl<=3)) (some [.v (i64 8)]) (some [.v (i64 (Ef (w_ (((Row.zeros 2).setI 0 0 (rcE (w_ fv 0 fv.n) rr)).setI 1 0 (rvE (w_ fv 0 fv.n) rr (w_ lr 0 lr.n) (w_ lp 0 lp.n) ld)) 0 2)))])) (some [.v (i64 (Ef (w_ (((Row.zeros 2).setI 0 0 (rcE (w_ fv 0 fv.n) rr)).setI 1 0 (rvE (w_ fv 0 fv.n) rr (w_ lr 0 lr.n) (w_ lp 0 lp.n) ld)) 0 2)))])) none) none) (br (k==4) (br (guc (w_ ba 0 ba.n)) (br (Ef (w_ (((Row.zeros 2).setI 0 0 (guE (w_ ba 0 ba.n))).setI 1 0 (lcE (ba.n:Int) (w_ pa 0 pa.n))) 0 2)==0) (br (!decide (cl<=3)) (some [.v (i64 8)]) (some [.v (i64 (Ef (w_ (((Row.zeros 2).setI 0 0 (guE (w_ ba 0 ba.n))).setI 1 0 (lcE (ba.n:Int) (w_ pa 0 pa.n))) 0 2)))])) (some [.v (i64 (Ef (w_ (((Row.zeros 2).setI 0 0 (guE (w_ ba 0 ba.n))).setI 1 0 (lcE (ba.n:Int) (w_ pa 0 pa.n))) 0 2)))])) none) (br (!decide (cl<=3)) (some [.v (i64 8)]) (some [.v (i64 0)]))))))) none)) (br (Ur (⟨(TK (⟨k,w_ ca 0 ca.n,w_ pi 0 pi.n,pc,w_ wo 0 wo.n,w_ gv 0 gv.n,w_ aa 0 aa.n,w_ fv 0 fv.n,rr,w_ lr 0 lr.n,w_ lp 0 lp.n,ld,w_ ba 0 ba.n,w_ pa 0 pa.n,cl⟩:Dc)).n,(↑(TK (⟨k,w_ ca 0 ca.n,w_ pi 0 pi.n,pc,w_ wo 0 wo.n,w_ gv 0 gv.n,w_ aa 0 aa.n,w_ fv 0 fv.n,rr,w_ lr 0 lr.n,w_ lp 0 lp.n,ld,w_ ba 0 ba.n,w_ pa 0 pa.n,cl⟩:Dc)).n:Int),0,k,ca.n,pi.n,pc,wo.n,gv.n,aa.n,fv.n,rr,lr.n,lp.n,ld,ba.n,pa.n,cl,TK (⟨k,w_ ca 0 ca.n,w_ pi 0 pi.n,pc,w_ wo 0 wo.n,w_ gv 0 gv.n,w_ aa 0 aa.n,w_ fv 0 fv.n,rr,w_ lr 0 lr.n,w_ lp 0 lp.n,ld,w_ ba 0 ba.n,w_ pa 0 pa.n,cl⟩:Dc),ca,pi,wo,gv,aa,fv,lr,lp,ba,pa⟩:A_l13)) (br (Ag (fun j=>(TK (⟨k,w_ ca 0 ca.n,w_ pi 0 pi.n,pc,w_ wo 0 wo.n,w_ gv 0 gv.n,w_ aa 0 aa.n,w_ fv 0 fv.n,rr,w_ lr 0 lr.n,w_ lp 0 lp.n,ld,w_ ba 0 ba.n,w_ pa 0 pa.n,cl⟩:Dc)).I j 0 !=k) (TK (⟨k,w_ ca 0 ca.n,w_ pi 0 pi.n,pc,w_ wo 0 wo.n,w_ gv 0 gv.n,w_ aa 0 aa.n,w_ fv 0 fv.n,rr,w_ lr 0 lr.n,w_ lp 0 lp.n,ld,w_ ba 0 ba.n,w_ pa 0 pa.n,cl⟩:Dc)).n 0) (some [.v (i64 8)]) (br (k==1) (br (pcc (w_ ca 0 ca.n) (w_ pi 0 pi.n)) (br (pc<=31) (br (sc (w_ wo 0 wo.n) (ca.n:Int)) (br (pcE (w_ ca 0 ca.n) (w_ pi 0 pi.n)==0) (br (!sb (w_ wo 0 wo.n) (ca.n:Int)) (some [.v (i64 8)]) (some [.v (i64 (pcE (w_ ca 0 ca.n) (w_ pi 0 pi.n)))])) (some [.v (i64 (pcE (w_ ca 0 ca.n) (w_ pi 0 pi.n)))])) none) (br (pcE (w_ ca 0 ca.n) (w_ pi 0 pi.n)==0) (some [.v (i64 8)]) (some [.v (i64 (pcE (w_ ca 0 ca.n) (w_ pi 0 pi.n)))]))) none) (br (k==2) (br ((w_ gv 0 gv.n).n<=1000000) (br (decide ((w_ gv 0 gv.n).n<=1000000∧(w_ aa 0 aa.n).n<=1000000)) (br (Ef (w_ (((Row.zeros 2).setI 0 0 (chkE (w_ gv 0 gv.n))).setI 1 0 (Gz (w_ gv 0 gv.n) (w_ aa 0 aa.n))) 0 2)==0) (br (!decide (cl<=31)) (some [.v (i64 8)]) (some [.v (i64 (Ef (w_ (((Row.zeros 2).setI 0 0 (chkE (w_ gv 0 gv.n))).setI 1 0 (Gz (w_ gv 0 gv.n) (w_ aa 0 aa.n))) 0 2)))])) (some [.v (i64 (Ef (w_ (((Row.zeros 2).setI 0 0 (chkE (w_ gv 0 gv.n))).setI 1 0 (Gz (w_ gv 0 gv.n) (w_ aa 0 aa.n))) 0 2)))])) none) none) (br (k==3) (br (rcc (w_ fv 0 fv.n) rr) (br (rvc (w_ fv 0 fv.n) rr (w_ lr 0 lr.n) (w_ lp 0 lp.n) ld) (br (Ef (w_ (((Row.zeros 2).setI 0 0 (rcE (w_ fv 0 fv.n) rr)).setI 1 0 (rvE (w_ fv 0 fv.n) rr (w_ lr 0 lr.n) (w_ lp 0 lp.n) ld)) 0 2)==0) (br (!decide (cl<=3)) (some [.v (i64 8)]) (some [.v (i64 (Ef (w_ (((Row.zeros 2).setI 0 0 (rcE (w_ fv 0 fv.n) rr)).setI 1 0 (rvE (w_ fv 0 fv.n) rr (w_ lr 0 lr.n) (w_ lp 0 lp.n) ld)) 0 2)))])) (some [.v (i64 (Ef (w_ (((Row.zeros 2).setI 0 0 (rcE (w_ fv 0 fv.n) rr)).setI 1 0 (rvE (w_ fv 0 fv.n) rr (w_ lr 0 lr.n) (w_ lp 0 lp.n) ld)) 0 2)))])) none) none) (br (k==4) (br (guc (w_ ba 0 ba.n)) (br (Ef (w_ (((Row.zeros 2).setI 0 0 (guE (w_ ba 0 ba.n))).setI 1 0 (lcE (ba.n:Int) (w_ pa 0 pa.n))) 0 2)==0) (br (!decide (cl<=3)) (some [.v (i64 8)]) (some [.v (i64 (Ef (w_ (((Row.zeros 2).setI 0 0 (guE (w_ ba 0 ba.n))).setI 1 0 (lcE (ba.n:Int) (w_ pa 0 pa.n))) 0 2)))])) (some [.v (i64 (Ef (w_ (((Row.zeros 2).setI 0 0 (guE (w_ ba 0 ba.n))).setI 1 0 (lcE (ba.n:Int) (w_ pa 0 pa.n))) 0 2)))])) none) (br (!decide (cl<=3)) (some [.v (i64 8)]) (some [.v (i64 0)]))))))) none))):=k_
def Aju(sc sb:Row->Int->Bool)(pcc:Row->Row->Bool)(pcE:Row->Row->Int)(rcc:Row->Int->Bool)(rcE:Row->Int->Int)(rvc:Row->Int->Row->Row->Int->Bool)(rvE:Row->Int->Row->Row->Int->Int)(guc:Row->Bool)(guO:Row->Row)(guE:Row->Int)(lcE:Int->Row->Int):Ah (C13 sc sb pcc pcE rcc rcE rvc rvE guc guO guE lcE) l13.C:=l13.ok k_
 (fun its x h hc=>by
  replace h:gY its=some x:=h;unfold gY at h;split at h
  ·cases h;have h:=c_l13_iff.1 hc;dsimp only at h;obtain⟨rfl,rfl,_⟩:=h;rfl
  ·cases h)
 (fun x hc=>by have:=c_l13_iff.1 hc;show x.n<2^64;omega)
 (fun q ⟨n,len0,j0,k,can,pin,pc,won,gvn,aan,fvn,rr,lrn,lpn,ld,ban,pan,cl,p,ca,pi,wo,gv,aa,fv,lr,lp,ba,pa⟩ j hc hi R K=>by
  obtain⟨h1,h2,h3⟩:=c_l13_iff.1 hc;dsimp only at*
  replace hi:j<n:=hi;refine(Adg sc sb pcc pcE rcc rcE rvc rvE guc guO guE lcE R K q n ((n:Int)) ((j:Int)) k can pin pc won gvn aan fvn rr lrn lpn ld ban pan cl p ca pi wo gv aa fv lr lp ba pa).trans ?_;rw[A9,AE j,gd j n hi,DX j n hi,Eg o_];rfl)
 (fun q ⟨n,len0,j0,k,can,pin,pc,won,gvn,aan,fvn,rr,lrn,lpn,ld,ban,pan,cl,p,ca,pi,wo,gv,aa,fv,lr,lp,ba,pa⟩ hc R K=>by
  obtain⟨h1,h2,h3⟩:=c_l13_iff.1 hc;dsimp only at*
  refine(Adg sc sb pcc pcE rcc rcE rvc rvE guc guO guE lcE R K q n ((n:Int)) ((n:Int)) k can pin pc won gvn aan fvn rr lrn lpn ld ban pan cl p ca pi wo gv aa fv lr lp ba pa).trans ?_;rw[EU n];rfl)
def vM(a b:Int):Ef (w_ (((Row.zeros 2).setI 0 0 a).setI 1 0 b) 0 2)=bif a !=0 then a else b:=by
 have h0:(w_ (((Row.zeros 2).setI 0 0 a).setI 1 0 b) 0 2).I 0 0=a:=rfl;have h1:(w_ (((Row.zeros 2).setI 0 0 a).setI 1 0 b) 0 2).I 1 0=b:=rfl;have hn:(w_ (((Row.zeros 2).setI 0 0 a).setI 1 0 b) 0 2).n=2:=rfl;unfold Ef;rw[hn];generalize w_ (((Row.zeros 2).setI 0 0 a).setI 1 0 b) 0 2=r at h0 h1;show(bif (r.I 0 0 !=0)||((r.I 1 0 !=0)||false)then r.I (bif (r.I 0 0 !=0)then 0 else bif (r.I 1 0 !=0)then 1 else 2) 0 else 0)=_;rw[h0,h1];cases c0:a !=0
 ·cases c1:b !=0
  ·have:b=0:=by simpa using c1
   rw[this];rfl
  ·exact h1
 ·exact h0
def two(a b:Int):Int:=bif a !=0 then a else b
def TE(e:Int)(ok:Bool):Int:=bif (e==0)&& !ok then 8 else e
def Ff(x:Dc):Bool:=decide (x.k<1)||(decide (x.k>4)||(x.k==1&&x.cl !=0))
def ckE(v:Ck)(x:Dc):Int:=bif Ff x||TF x.k x then 8 else bif x.k==1 then TE (v.pcE (Ae x.ca) (Ae x.pi)) (decide (x.pc<=31)&&v.sb (Ae x.wo) x.ca.n)else bif x.k==2 then TE (two (chkE x.gv) (Gz x.gv x.aa)) (decide (x.cl<=31))else bif x.k==3 then TE (two (v.rcE (Ae x.fv) x.rr) (v.rvE (Ae x.fv) x.rr (Ae x.lr) (Ae x.lp) x.ld)) (decide (x.cl<=3))else TE (two (v.guE (Ae x.ba)) (v.lcE x.ba.n (Ae x.pa))) (decide (x.cl<=3))
def ckC(v:Ck)(x:Dc):Bool:=Ff x||(TF x.k x||(bif x.k==1 then v.pcc (Ae x.ca) (Ae x.pi)&&(!decide (x.pc<=31)||v.sc (Ae x.wo) x.ca.n)else bif x.k==2 then decide (x.gv.n<=1000000∧x.aa.n<=1000000)else bif x.k==3 then v.rcc (Ae x.fv) x.rr&&v.rvc (Ae x.fv) x.rr (Ae x.lr) (Ae x.lp) x.ld else v.guc (Ae x.ba)))
def Ape(v:Ck):FD
 |[d]=>match Fe d with
  |some x=>some (ckC v x,[.v (i64 (ckE v x))])
  |none=>none
 |_=>none
structure Ck.Ok(v:Ck):Prop where
 sq:DenW Tryz.prog Wd 33 (FSq v.sc v.sb)
 pc:DenW Tryz.prog Wd 32 (FPc v.pcc v.pcE)
 rc:DenW Tryz.prog Wd 37 (yS v.rcc v.rcE)
 rv:DenW Tryz.prog Wd 38 (FRv v.rvc v.rvE)
 gu:DenW Tryz.prog Wd 39 (FGu v.guc v.guO v.guE)
 lc:DenW Tryz.prog Wd 40 (FLc v.lcE)
def Al7{v:Ck}(hv:v.Ok):LH (C13 v.sc v.sb v.pcc v.pcE v.rcc v.rcE v.rvc v.rvE v.guc v.guO v.guE v.lcE) Wd:=BA enter mixed (Aw hv.sq<|Aw hv.pc<|Aw hv.rc<|Aw hv.rv<|Aw hv.gu<|Aw hv.lc<|Aw (den_chk.at _)<|Aw (den_val.at _)<|Aw (den_fst.at _)<|Aw (den_par.at _) AX) (Aw (Aju ..) AX)
def ckA(v:Ck)(x:Dc):OD:=br (x.k==1) (br (v.pcc (Ae x.ca) (Ae x.pi)) (br (decide (x.pc<=31)) (br (v.sc (Ae x.wo) x.ca.n) (br (v.pcE (Ae x.ca) (Ae x.pi)==0) (br (!v.sb (Ae x.wo) x.ca.n) (some [.v (i64 8)]) (some [.v (i64 (v.pcE (Ae x.ca) (Ae x.pi)))])) (some [.v (i64 (v.pcE (Ae x.ca) (Ae x.pi)))])) none) (br (v.pcE (Ae x.ca) (Ae x.pi)==0) (some [.v (i64 8)]) (some [.v (i64 (v.pcE (Ae x.ca) (Ae x.pi)))]))) none) (br (x.k==2) (br (decide (x.gv.n<=1000000)) (br (decide (x.gv.n<=1000000∧x.aa.n<=1000000)) (br (Ef (w_ (((Row.zeros 2).setI 0 0 (chkE x.gv)).setI 1 0 (Gz x.gv x.aa)) 0 2)==0) (br (!decide (x.cl<=31)) (some [.v (i64 8)]) (some [.v (i64 (Ef (w_ (((Row.zeros 2).setI 0 0 (chkE x.gv)).setI 1 0 (Gz x.gv x.aa)) 0 2)))])) (some [.v (i64 (Ef (w_ (((Row.zeros 2).setI 0 0 (chkE x.gv)).setI 1 0 (Gz x.gv x.aa)) 0 2)))])) none) none) (br (x.k==3) (br (v.rcc (Ae x.fv) x.rr) (br (v.rvc (Ae x.fv) x.rr (Ae x.lr) (Ae x.lp) x.ld) (br (Ef (w_ (((Row.zeros 2).setI 0 0 (v.rcE (Ae x.fv) x.rr)).setI 1 0 (v.rvE (Ae x.fv) x.rr (Ae x.lr) (Ae x.lp) x.ld)) 0 2)==0) (br (!decide (x.cl<=3)) (some [.v (i64 8)]) (some [.v (i64 (Ef (w_ (((Row.zeros 2).setI 0 0 (v.rcE (Ae x.fv) x.rr)).setI 1 0 (v.rvE (Ae x.fv) x.rr (Ae x.lr) (Ae x.lp) x.ld)) 0 2)))])) (some [.v (i64 (Ef (w_ (((Row.zeros 2).setI 0 0 (v.rcE (Ae x.fv) x.rr)).setI 1 0 (v.rvE (Ae x.fv) x.rr (Ae x.lr) (Ae x.lp) x.ld)) 0 2)))])) none) none) (br (x.k==4) (br (v.guc (Ae x.ba)) (br (Ef (w_ (((Row.zeros 2).setI 0 0 (v.guE (Ae x.ba))).setI 1 0 (v.lcE (x.ba.n:Int) (Ae x.pa))) 0 2)==0) (br (!decide (x.cl<=3)) (some [.v (i64 8)]) (some [.v (i64 (Ef (w_ (((Row.zeros 2).setI 0 0 (v.guE (Ae x.ba))).setI 1 0 (v.lcE (x.ba.n:Int) (Ae x.pa))) 0 2)))])) (some [.v (i64 (Ef (w_ (((Row.zeros 2).setI 0 0 (v.guE (Ae x.ba))).setI 1 0 (v.lcE (x.ba.n:Int) (Ae x.pa))) 0 2)))])) none) (br (!decide (x.cl<=3)) (some [.v (i64 8)]) (some [.v (i64 0)])))))
def Ou(e:Int)(ok:Bool):br (e==0) (br (!ok) (some [D.v (i64 8)]) (some [D.v (i64 e)])) (some [D.v (i64 e)])=some [D.v (i64 (TE e ok))]:=by
 unfold TE;cases e==0<;>cases ok<;>rfl
def Aq4(x:Dc):(TK x).n<=4:=by
 unfold TK;cases fC x<;>cases fG x<;>cases fR x<;>cases fS x<;>decide
def Ajh(v:Ck)(x:Dc)(h1:Ff x=false)(h2:TF x.k x=false)(hc:ckC v x=true):ckA v x=some [.v (i64 (ckE v x))]:=by
 have hk:1<=x.k∧x.k<=4:=by
  unfold Ff at h1;simp only[AI,decide_eq_false_iff_not]at h1;omega
 unfold ckC at hc;rw[h1,h2,Bool.false_or,Bool.false_or]at hc;unfold ckE ckA;rw[h1,h2];simp only[vM];show _=some [D.v (i64 (bif x.k==1 then _ else _))];have:x.k=1∨x.k=2∨x.k=3∨x.k=4:=o_;rcases this with e|e|e|e<;>rw[e]at hc⊢
 ·replace hc:(v.pcc (Ae x.ca) (Ae x.pi)&&(!decide (x.pc<=31)||v.sc (Ae x.wo) x.ca.n))=true:=hc;simp only[A2]at hc;show br (v.pcc (Ae x.ca) (Ae x.pi)) _ _=some [D.v (i64 (TE (v.pcE (Ae x.ca) (Ae x.pi)) (decide (x.pc<=31)&&v.sb (Ae x.wo) x.ca.n)))];rw[hc.1,Aa];cases c:decide (x.pc<=31)
  ·rw[Ac];exact Ou _ false
  ·have h3:v.sc (Ae x.wo) x.ca.n=true:=by have:=hc.2;rw[c]at this;exact this
   rw[Aa,h3,Aa];exact Ou _ _
 ·replace hc:decide (x.gv.n<=1000000∧x.aa.n<=1000000)=true:=hc;have h3:=AD hc;show br (decide (x.gv.n<=1000000)) (br (decide (x.gv.n<=1000000∧x.aa.n<=1000000)) _ none) none=_;rw[A4 h3.1,hc,Aa,Aa];exact Ou _ _
 ·replace hc:(v.rcc (Ae x.fv) x.rr&&v.rvc (Ae x.fv) x.rr (Ae x.lr) (Ae x.lp) x.ld)=true:=hc;simp only[A2]at hc;show br (v.rcc (Ae x.fv) x.rr) (br (v.rvc (Ae x.fv) x.rr (Ae x.lr) (Ae x.lp) x.ld) _ none) none=_;rw[hc.1,hc.2,Aa,Aa];exact Ou _ _
 ·replace hc:v.guc (Ae x.ba)=true:=hc;show br (v.guc (Ae x.ba)) _ none=_;rw[hc,Aa];exact Ou _ _
def Y7{v:Ck}(hv:v.Ok):DenW Tryz.prog Wd 10 (Ape v):=CO (Al7 hv) fun ds rs h=>by
 unfold Ape at h;split at h
 ·split at h
  ·rename_i x hx;simp only[A5,A6]at h;obtain⟨hc,rfl⟩:=h;rw[CZ hx];refine(u13 v.sc v.sb v.pcc v.pcE v.rcc v.rcE v.rvc v.rvE v.guc v.guO v.guE v.lcE x.k x.ca x.pi x.pc x.wo x.gv x.aa x.fv x.rr x.lr x.lp x.ld x.ba x.pa x.cl).trans ?_;have hl:∀y:A_l13,y.j=0->y.len=y.n->y.n<=1000->Ur y=true:=fun y h1 h2 h3=>c_l13_iff.2 ⟨h1,h2,h3⟩;have hn:=Aq4 x;rw[hl _ rfl rfl (by show(TK x).n<=1000;omega),Aa];show br (decide (x.k<1)) _ (br (decide (x.k>4)) _ (br (x.k==1) (br (x.cl !=0) _ (br (TF x.k x) _ (ckA v x))) (br (TF x.k x) _ (ckA v x))))=_;have hE:(Ff x||TF x.k x)=true->some [D.v (i64 8)]=some [D.v (i64 (ckE v x))]:=fun h=>by unfold ckE;rw[h];rfl
   by_cases h1:Ff x=true
   ·have hE':=hE (by rw[h1];rfl);rw[<-hE'];unfold Ff at h1;cases c1:decide (x.k<1)
    ·rw[c1]at h1;cases c2:decide (x.k>4)
     ·rw[c2,Bool.false_or,Bool.false_or,A2]at h1;rw[h1.1,h1.2];rfl
     ·rfl
    ·rfl
   ·have h1:Ff x=false:=by simpa using h1
    have h1':=h1;unfold Ff at h1';simp only[AI]at h1';rw[h1'.1,h1'.2.1,Ac,Ac];have hmid:br (TF x.k x) (some [D.v (i64 8)]) (ckA v x)=some [D.v (i64 (ckE v x))]:=by
     cases c3:TF x.k x
     ·rw[Ac];exact Ajh v x h1 c3 hc
     ·exact hE (by rw[h1,c3];rfl)
    cases c2:x.k==1
    ·exact hmid
    ·have h3:=h1'.2.2;rw[c2,Bool.true_and]at h3;rw[Aa,h3,Ac];exact hmid
  ·cases h
 ·cases h
open Go.Lib Go.RowKit
def aO{mem:M_}{ρ:Ev.Map}{B B':Nat}{w w':World}(hall:∀(id:Nat)(b:Blk),mem[id]? =some (some b)->∃ks r,b=.row ks false r)(h:MemR mem ρ B w)(hb:Below w.heap.size w w'):MemR mem ρ B' w':=by
 refine⟨fun id b hm=>?_,h.dead,h.inj⟩;obtain⟨L,hL,hr⟩:=h.blk id b hm;refine⟨L,hL,?_⟩;obtain⟨ks,r,rfl⟩:=hall id b hm;obtain⟨h1,h2,h3,h4,h5⟩:=hr;refine⟨h1,h2,fun h=>(by cases h),fun hn=>?_,h5⟩;obtain⟨h6,h7⟩:=h4 hn;have hok:∀b,Ev.okB mem ρ w b->Ev.okB mem ρ w' b∧w'.heap[b]? =w.heap[b]? :=fun b hb'=>⟨⟨Nat.lt_of_lt_of_le hb'.1 hb.size,hb'.2⟩,hb.block b hb'.1⟩;exact⟨fun _=>(hok _ (h6 rfl)).1,h7.mono hok (hok _ (h6 rfl)).2⟩
def Zd{mem:M_}{ρ:Ev.Map}{w:World}{r:Row}{e j:Nat}{y:Value}(h:CellR (Ev.okB mem ρ w) w (.slice Ar) r e j y):
  ∃a cap b off,y=.slice a (r.R e j).n cap∧(0<(r.R e j).n->a=some ⟨b,off,none⟩∧b<w.heap.size)∧∀i,i<(r.R e j).n->w.cell? ⟨b,off+i,none⟩=some (.int .i64 ((r.R e j).I i 0)):=by
 cases h with
 |@slice0 _ _ _ _ a cap h1=>exact⟨a,cap,0,0,by rw[h1],fun h=>o_,fun i hi=>o_⟩
 |@slice _ _ _ _ b off n cap h1 h2 h3 h4=>
  refine⟨_,cap,b,off,by rw[h1],fun _=>⟨rfl,h3.1⟩,fun i hi=>?_⟩;cases h4 with
  |mk v g1 g2=>
   have:=g1 i 0 _ hi rfl;rw[Ey (g2 i 0 _ hi rfl)]at this;rw[<-this];show w.cell? _=w.cell? ⟨b,off+i*1+0,none⟩;rw[Nat.mul_one,Nat.add_zero]
def Aog{cs:Array Value}(h:cs.size=15):cs= #[cs.getD 0 unk,cs.getD 1 unk,cs.getD 2 unk,cs.getD 3 unk,cs.getD 4 unk,cs.getD 5 unk,cs.getD 6 unk,cs.getD 7 unk,cs.getD 8 unk,cs.getD 9 unk,cs.getD 10 unk,cs.getD 11 unk,cs.getD 12 unk,cs.getD 13 unk,cs.getD 14 unk]:=by
 apply Array.ext (by rw[h];rfl);intro i h1 h2;have hi:i<15:=o_;have h3:cs[i]=cs.getD i unk:=by rw[Array.getD_eq_getD_getElem?,AJ h1];rfl
 rw[h3]
 match i,hi with
 |0,_=>rfl
 |1,_=>rfl
 |2,_=>rfl
 |3,_=>rfl
 |4,_=>rfl
 |5,_=>rfl
 |6,_=>rfl
 |7,_=>rfl
 |8,_=>rfl
 |9,_=>rfl
 |10,_=>rfl
 |11,_=>rfl
 |12,_=>rfl
 |13,_=>rfl
 |14,_=>rfl
def Arj(x:Dc):List Value:=[.int .u8 x.k,S_ 0 0 x.ca.n,S_ 1 0 x.pi.n,.int .u8 x.pc,S_ 2 0 x.wo.n,S_ 3 0 x.gv.n,S_ 4 0 x.aa.n,S_ 5 0 x.fv.n,.int .i64 x.rr,S_ 6 0 x.lr.n,S_ 7 0 x.lp.n,.int .i64 x.ld,S_ 8 0 x.ba.n,S_ 9 0 x.pa.n,.int .u8 x.cl]
def Jv(x:Dc):M_:=[some (.row ksC false x.ca),some (.row ksP false x.pi),some (.row ksW false x.wo),some (.row Oc false x.gv),some (.row Hf false x.aa),some (.row Oc false x.fv),some (.row Hf false x.lr),some (.row Hf false x.lp),some (.row Hf false x.ba),some (.row ks3 false x.pa)]
def UN(x:Dc):AU false [x.D] []=some ([.agg ⟨Arj x⟩],Jv x):=rfl
def ZV(x:Dc):∀(id:Nat)(b:Blk),(Jv x)[id]? =some (some b)->∃ks r,b=.row ks false r:=fun id b h=>by
 unfold Jv at h
 match id,h with
 |0,h=>cases h;exact⟨_,_,rfl⟩
 |1,h=>cases h;exact⟨_,_,rfl⟩
 |2,h=>cases h;exact⟨_,_,rfl⟩
 |3,h=>cases h;exact⟨_,_,rfl⟩
 |4,h=>cases h;exact⟨_,_,rfl⟩
 |5,h=>cases h;exact⟨_,_,rfl⟩
 |6,h=>cases h;exact⟨_,_,rfl⟩
 |7,h=>cases h;exact⟨_,_,rfl⟩
 |8,h=>cases h;exact⟨_,_,rfl⟩
 |9,h=>cases h;exact⟨_,_,rfl⟩
 |n+10,h=>simp at h
def Aoc{ρ:Ev.Map}{N:Nat}{xs:List Value}{y:Value}(h:V ρ N (.agg ⟨xs⟩) y):∃cs:Array Value,y=.agg cs∧xs.length=cs.size∧∀i x,xs[i]? =some x->V ρ N x (cs.getD i unk):=by
 cases h with
 |@agg _ ys h1 h2=>
  refine⟨ys,rfl,h1,fun i x hx=>?_⟩;have hi:i<ys.size:=by
   have:=(A0.1 hx).1;rw[<-h1];exact this
  have h3:ys[i]? =some (ys.getD i unk):=by rw[Array.getD_eq_getD_getElem?,AJ hi];rfl
  exact h2 i x _ (by simpa using hx) h3
def N8(q:Int×Int):List UInt8:=Rt.txL q.1 q.2
def FO(x:Nat->Int×Int):Nat->List UInt8
 |0=>[]
 |n+1=>FO x n++(32::N8 (x n))
def iQ(q:Int×Int):Bool:=Rt.iR q.1&&Rt.iR q.2
def NT{q:Int×Int}(h:iQ q=true):(N8 q).length<=43:=by
 unfold iQ at h;rw[A2,<-Rt.iR_same,<-Rt.iR_same]at h;have h1:=C9 h.1;have h2:=C9 h.2;unfold N8 Rt.txL;split
 ·split
  ·rw[AG,List.length_cons];omega
  ·omega
 ·exact Nat.zero_le _
def RZ{x:Nat->Int×Int}(h:∀j,iQ (x j)=true):∀n,(FO x n).length<=n*44
 |0=>Nat.zero_le _
 |n+1=>by
  have h1:=RZ h n;have h2:=NT (h n);show(FO x n++(32::N8 (x n))).length<=_;rw[AG,List.length_cons];omega
def Ame{ρ:Ev.Map}{N:Nat}{s:Y_}{n:Int}{y:Value}(h:V ρ N (.tuple ⟨[.string s,.int .i64 n]⟩) y):y=.tuple #[.string s,.int .i64 n]:=by
 cases h with
 |@tuple _ ys h1 h2=>
  have hs:ys.size=2:=h1.symm;have e0:=TW (h2 0 _ (ys.getD 0 unk) rfl (by rw[Array.getD_eq_getD_getElem?,AJ o_];rfl));have e1:=MV (h2 1 _ (ys.getD 1 unk) rfl (by rw[Array.getD_eq_getD_getElem?,AJ o_];rfl));have:ys= #[ys.getD 0 unk,ys.getD 1 unk]:=by
   apply Array.ext (by rw[hs];rfl);intro i h3 h4;have hi:i<2:=o_;have h5:ys[i]=ys.getD i unk:=by rw[Array.getD_eq_getD_getElem?,AJ h3];rfl
   rw[h5]
   match i,hi with
   |0,_=>rfl
   |1,_=>rfl
  rw[this,e0,e1]
def Uf(q:Int×Int)(h:iQ q=true)(w:World)(hw:Wd w):Calls Tryz.prog 110 #[.agg #[.int .i64 q.1,.int .i64 q.2]] w fun e w'=>e=.returned (.tuple #[.string (txt (N8 q)),.int .i64 (Rt.chkE q.1 q.2)])∧Below w.heap.size w w':=by
 refine(Rt.den_text w hw [.agg [.v (i64 q.1),.v (i64 q.2)]] [.v (str (N8 q)),.v (i64 (Rt.chkE q.1 q.2))] (by
  unfold iQ at h;show some (Rt.iR q.1&&Rt.iR q.2,_)=_;rw[h];rfl) w (Below.refl _ _) [.agg #[.int .i64 q.1,.int .i64 q.2]] [.agg ⟨[i64 q.1,i64 q.2]⟩] [] (fun _=>none) rfl (Oi _ _) rfl (fun i x c hx hc=>?_)).mono fun e w' ⟨cv,he,hb',us,mem',ρ',hf,_,hcv⟩=>?_
 ·match i,hx,hc with
  |0,hx,hc=>
   simp only[List.getElem?_cons_zero,A5]at hx hc;subst hx hc;refine .agg rfl fun j x y hx hy=>?_
   match j,hx,hy with
   |0,hx,hy=>simp at hx hy;subst hx hy;exact .int
   |1,hx,hy=>simp at hx hy;subst hx hy;exact .int
 ·have e2:us=[str (N8 q),i64 (Rt.chkE q.1 q.2)]:=by
   have:AU true [D.v (str (N8 q)),.v (i64 (Rt.chkE q.1 q.2))] []=some ([str (N8 q),i64 (Rt.chkE q.1 q.2)],[]):=rfl;rw[this]at hf;simp only[A5,A6]at hf;exact hf.1.symm
  subst e2;exact⟨by rw[he,Ame hcv],hb'⟩
set_option maxHeartbeats 800000 in
set_option maxRecDepth 1000000 in
def Vp(B b:Nat)(L:List UInt8)(word:Y_)(a:Option Addr)(g off n cap:Nat)(x:Nat->Int×Int)(w:World)(hW:∀w',Below B w w'->Wd w')(hI:Lib.IsBuilderF 68 5 B b (Lib.byteCells L) w)(hB:B<=w.heap.size)
  (ha:0<n->a=some ⟨g,off,none⟩) (hx:∀j,iQ (x j)=true) (hl:∀w',Below B w w'->Lib.OthersKept 5 (some b) w w'->∀j,j<n->w'.cell? ⟨g,off+j*2,none⟩=some (.int .i64 (x j).1)∧w'.cell? ⟨g,off+j*2+1,none⟩=some (.int .i64 (x j).2))
  (hlen:L.length+word.size+n*44<=1000000000000):
  Calls Tryz.prog 64 #[.pointer (some ⟨b,0,none⟩),.string word,.slice a n cap] w fun e w'=>e=.returned (.tuple #[])∧Lib.IsBuilderF 68 5 B b (Lib.byteCells (L++Ad word++FO x n++[10])) w'∧Below B w w'∧Lib.OthersKept 5 (some b) w w':=by
 have mx:Tryz.prog.follows .mixedOrders=true:=mixed;have hWh:=hid hW;have hlh:=hid hl;clear hW hl
 go_enter Tryz.func64,Tryz.ntmps64
 go_wp2_with (first|(go_at_call 19;refine(FW B b L word _ hI ?_ hB).mono ?_))
 ·omega
 rintro e w1 ⟨rfl,hI1,hb1,hk1⟩
 go_wp2
 go_loopw [17] (fun i wr=>∃k:Nat,i=.int .i64 k∧k<=n∧Lib.IsBuilderF 68 5 B b (Lib.byteCells (L++Ad word++FO x k)) wr∧Below B w wr∧Lib.OthersKept 5 (some b) w wr) (fun i _=>n-(RowKit.intOf i).toNat)
 case atStart=>
  exact⟨0,rfl,Nat.zero_le _,by simpa [FO]using hI1,hb1,hk1⟩
 case round=>
  obtain⟨k,rfl,hk,hI2,hb2,hk2⟩:=hrel;have hle:(L++Ad word++FO x k).length<=2000000000000:=by
   have h1:=RZ hx k;have h3:k*44<=n*44:=AH _ hk;have h4:(Ad word).length=word.size:=(AZ word).symm;rw[AG,AG];omega
  have hB5:B<=wr.heap.size:=Nat.le_trans hB hb2.size;by_cases hp:k<n
  ·have ha':=ha o_;subst ha';obtain⟨hc0,hc1⟩:=hlh.un _ hb2 hk2 k hp;obtain⟨s,hs⟩:∃s,Hid (s=txt (N8 (x k))):=⟨_,rfl⟩;have hs2:s.size<=43:=by rw[show s=txt (N8 (x k))from hs,txt_size];exact NT (hx k)
   have hI3:=hI2.alloc (.cells #[.int .i64 (x k).1,.int .i64 (x k).2] 123);have hb3:Below B w (wr.alloc (.cells #[.int .i64 (x k).1,.int .i64 (x k).2] 123)):=hb2.alloc hB5 _;have hk3:=hk2.alloc (.cells #[.int .i64 (x k).1,.int .i64 (x k).2] 123);have hct:=Uf (x k) (hx k) _ (hWh.un _ hb3);rw[<-show s=txt (N8 (x k))from hs]at hct;obtain⟨P5,hp5⟩:∃P5:World->Prop,∀v,P5 v↔(Lib.IsBuilderF 68 5 B b (Lib.byteCells (L++Ad word++FO x k)) v∧Below B w v∧Lib.OthersKept 5 (some b) w v):=⟨_,fun _=>Iff.rfl⟩;have hct2:Calls Tryz.prog 110 #[.agg #[.int .i64 (x k).1,.int .i64 (x k).2]] (wr.alloc (.cells #[.int .i64 (x k).1,.int .i64 (x k).2] 123)) fun e w'=>e=.returned (.tuple #[.string s,.int .i64 (Rt.chkE (x k).1 (x k).2)])∧P5 w':=hct.mono fun e w' ⟨h1,h2⟩=>⟨h1,(hp5 w').2 ⟨hI3.below h2,hb3.trans (h2.mono (Nat.le_trans hB hb3.size)),hk3.trans (KP h2 _)⟩⟩;have hp6:=hid hp5;have hle2:=hid hle;clear hct hI3 hb3 hk3 hI2 hb2 hk2 hI1 hb1 hk1 hI hp5 hle
   go_wp2_with (first|(go_at_call 110;refine hct2.mono ?_))
   rintro e w5 rfl h5;obtain⟨g3,g1,g2⟩:=hp6.un w5|>.1 h5;have hB6:B<=w5.heap.size:=Nat.le_trans hB g1.size;have hcat:¬9223372036854775807<1+s.size:=o_;have hlen5:(L++Ad word++FO x k).length+(ByteArray.mk #[32]++s).size<=140737488355328:=by
    have hle:(L++Ad word++FO x k).length<=2000000000000:=hle2;rw[ByteArray.size_append];show _+(1+_)<=_;omega
   clear hct2 hp6 h5
   go_wp2_with (first|(go_at_call 19;refine(FW B b (L++Ad word++FO x k) _ w5 g3 ?_ hB6).mono ?_))
   ·exact hlen5
   rintro e w6 ⟨rfl,h6,b6,k6⟩
   go_wp2
   go_roundw
   case rel=>
    refine⟨k+1,by go_num,o_,?_,g1.trans b6,g2.trans k6⟩;have e1:Ad (ByteArray.mk #[32]++s)=32::N8 (x k):=by rw[Ei,show s=txt (N8 (x k))from hs,CB];rfl
    rw[e1]at h6;rw[show FO x (k+1)=FO x k++(32::N8 (x k))from rfl,<-List.append_assoc];exact h6
   case measure=>
    simp[RowKit.intOf];omega
  ·have hkn:k=n:=o_;subst hkn;have hlen5:(L++Ad word++FO x k).length+(ByteArray.mk #[10]).size<=140737488355328:=by
    show _+1<=_;omega
   go_wp2_with (first|(go_at_call 19;refine(FW B b (L++Ad word++FO x k) _ wr hI2 ?_ hB5).mono ?_))
   ·exact hlen5
   rintro e w6 ⟨rfl,h6,b6,k6⟩
   go_wp2
   go_end0
   exact⟨rfl,h6,hb2.trans b6,hk2.trans k6⟩
def kN{w2:World}{b:Nat}{L:List UInt8}{w:World}(h:WrI w2 b L w)(hW:∀w',Below b w2 w'->Wd w')(hb:b<=w2.heap.size)(word:Y_)(a:Option Addr)(g off n cap:Nat)(x:Nat->Int)
  (ha:0<n->a=some ⟨g,off,none⟩) (hx:∀j,iR (x j)=true) (hl:∀w',Below b w w'->Lib.OthersKept 5 (some b) w w'->∀j,j<n->w'.cell? ⟨g,off+j,none⟩=some (.int .i64 (x j))) (hlen:L.length+word.size+n*22<=1000000000000):
  Calls Tryz.prog 22 #[.pointer (some ⟨b,0,none⟩),.string word,.slice a n cap] w fun e w'=>e=.returned (.tuple #[])∧WrI w2 b (L++Ad word++BI x n++[10]) w'∧Lib.OthersKept 5 (some b) w w':=
 (LZ b b L word a g off n cap x w (fun w' h'=>hW w' (h.bel.trans h')) h.bld (Nat.le_trans hb h.bel.size) ha hx hl hlen).mono fun e w' ⟨he,h1,h2,h3⟩=>⟨he,⟨h.bel.trans h2,h.oth.trans h3,h1⟩,h3⟩
def UD{w2:World}{b:Nat}{L:List UInt8}{w:World}(h:WrI w2 b L w)(hW:∀w',Below b w2 w'->Wd w')(hb:b<=w2.heap.size)(word:Y_)(a:Option Addr)(g off n cap:Nat)(x:Nat->Int×Int)
  (ha:0<n->a=some ⟨g,off,none⟩) (hx:∀j,iQ (x j)=true) (hl:∀w',Below b w w'->Lib.OthersKept 5 (some b) w w'->∀j,j<n->w'.cell? ⟨g,off+j*2,none⟩=some (.int .i64 (x j).1)∧w'.cell? ⟨g,off+j*2+1,none⟩=some (.int .i64 (x j).2)) (hlen:L.length+word.size+n*44<=1000000000000):
  Calls Tryz.prog 64 #[.pointer (some ⟨b,0,none⟩),.string word,.slice a n cap] w fun e w'=>e=.returned (.tuple #[])∧WrI w2 b (L++Ad word++FO x n++[10]) w'∧Lib.OthersKept 5 (some b) w w':=
 (Vp b b L word a g off n cap x w (fun w' h'=>hW w' (h.bel.trans h')) h.bld (Nat.le_trans hb h.bel.size) ha hx hl hlen).mono fun e w' ⟨he,h1,h2,h3⟩=>⟨he,⟨h.bel.trans h2,h.oth.trans h3,h1⟩,h3⟩
def sPiece:Y_:=⟨⟨[112,105,101,99,101]⟩⟩
def sWorth:Y_:=⟨⟨[119,111,114,116,104]⟩⟩
def Kv(word:Y_)(x:Nat->Nat->Int×Int)(n:Nat->Nat):Nat->List UInt8
 |0=>[]
 |k+1=>Kv word x n k++(Ad word++FO (x k) (n k)++[10])
def KW{word:Y_}{x:Nat->Nat->Int×Int}{n:Nat->Nat}(hw:word.size<=100)(hx:∀e j,iQ (x e j)=true):∀k,(∀e,e<k->n e<=2000)->(Kv word x n k).length<=k*100000
 |0,_=>Nat.zero_le _
 |k+1,h=>by
  have h1:=KW hw hx k (fun e he=>h e o_);have h2:=RZ (hx k) (n k);have h3:=h k o_;have h4:(Ad word).length=word.size:=(AZ word).symm;show(Kv word x n k++(Ad word++FO (x k) (n k)++[10])).length<=_;rw[AG,AG,AG,List.length_singleton];omega
def J4(cl:Int)(un:Nat)(U Dv:Nat->Int)(j:Nat):Int:=if j=0 then cl else if j<1+un then U (j-1)else Dv (j-1-un)
def V6{cl:Int}{un:Nat}{U Dv:Nat->Int}(h1:iR cl=true)(h2:∀j,iR (U j)=true)(h3:∀j,iR (Dv j)=true)(j:Nat):iR (J4 cl un U Dv j)=true:=by
 unfold J4;split
 ·exact h1
 ·split
  ·exact h2 _
  ·exact h3 _
def fH(cl:Int)(un dn:Nat)(U Dv:Nat->Int){j:Nat}(hj:j<1+un+dn):([Value.int .i64 cl]++(List.range un).map (fun i=>Value.int .i64 (U i))++(List.range dn).map (fun i=>Value.int .i64 (Dv i)))[j]? =some (.int .i64 (J4 cl un U Dv j)):=by
 unfold J4;rw[List.getElem?_append];simp only[AG,List.length_singleton,List.length_map,List.length_range];by_cases h0:j<1+un
 ·rw[AM h0,List.getElem?_append];simp only[List.length_singleton];by_cases h1:j<1
  ·have:j=0:=o_;subst this;rfl
  ·rw[AL h1,AL o_,AM h0,List.getElem?_map,List.getElem?_range o_];rfl
 ·rw[AL h0,AL o_,AL h0,List.getElem?_map,List.getElem?_range o_,show j-(1+un)=j-1-un by omega];rfl
def Yj(v:World)(x:Int)(H:Nat)(hH:v.heap.size=H):(v.alloc (.cells #[.int .i64 x] 3)).ownsRow H 3 1 (.slice (some ⟨H,0,none⟩) 1 1) 1 [.int .i64 x]:=by
 subst hH;exact⟨y_,.inr ⟨v.heap.size,1,_,rfl,AC _,Cj v _,o_,by unfold maxLen;omega,rfl,rfl⟩⟩
def RS{w2 v:World}{b ub uo un:Nat}{U:Nat->Int}(hv:Below b w2 v)(hub:ub<b)(hu:∀j,j<un->w2.cell? ⟨ub,uo+j,none⟩=some (.int .i64 (U j))):∀j u,((List.range un).map (fun i=>Value.int .i64 (U i)))[j]? =some u->v.cell? ((⟨ub,uo,none⟩:Addr).add j)=some u:=by
 intro j u h;rw[List.getElem?_map]at h;by_cases hj:j<un
 ·rw[List.getElem?_range hj]at h;cases h;rw[Addr.add_lit,hv.cell (p:=⟨ub,uo+j,none⟩) hub];exact hu j hj
 ·rw[List.getElem?_eq_none (by simpa using hj)]at h;cases h
def Pz(un:Nat)(U:Nat->Int):∀u∈(List.range un).map (fun i=>Value.int .i64 (U i)),u.oneCell'=true:=by
 intro u hu;obtain⟨i,_,rfl⟩:=List.mem_map.1 hu;rfl
def Oz{w7:World}{base g cap un dn:Nat}{x:Int}{U Dv:Nat->Int}(hown:w7.ownsRow base 3 1 (.slice (some ⟨g,0,none⟩) (1+un+dn) cap) (1+un+dn) ([Value.int .i64 x]++(List.range un).map (fun i=>Value.int .i64 (U i))++(List.range dn).map (fun i=>Value.int .i64 (Dv i)))){b:Nat}(hgb:g≠b):
  ∀w',Below b w7 w'->Lib.OthersKept 5 (some b) w7 w'->∀j,j<1+un+dn->w'.cell? ⟨g,0+j,none⟩=some (.int .i64 (J4 x un U Dv j)):=by
 intro w' _ hk j hj;rcases hown.2 with⟨h0,_⟩|⟨g',cap',cur,hv,hb,hg,r1,r2,r3,r4⟩
 ·cases h0
 ·cases hv;have h1:=hk g _ hg (fun e=>hgb (by simpa using e)) (fun c fz e=>by cases e);rw[AE,Lib.cell_of_heap h1];have h2:=fH x un dn U Dv hj;rw[Nat.mul_one]at r4;rw[<-r4,List.getElem?_take_of_lt hj,Array.getElem?_toList]at h2;exact h2
def Jl(S:Nat->Nat->Int)(j:Nat):Int×Int:=if j%2=0 then(S (j/2) 0,S (j/2) 1)else(S (j/2) 2,S (j/2) 3)
def WL{S:Nat->Nat->Int}(h:∀i c,Rt.iR (S i c)=true)(j:Nat):iQ (Jl S j)=true:=by
 unfold Jl iQ;split
 ·show(Rt.iR (S (j/2) 0)&&Rt.iR (S (j/2) 1))=true;rw[h,h];rfl
 ·show(Rt.iR (S (j/2) 2)&&Rt.iR (S (j/2) 3))=true;rw[h,h];rfl
def xY(S:Nat->Nat->Int):Nat->List Value
 |0=>[]
 |n+1=>xY S n++[.int .i64 (S n 0),.int .i64 (S n 1),.int .i64 (S n 2),.int .i64 (S n 3)]
def Yg(S:Nat->Nat->Int):∀n,(xY S n).length=n*4
 |0=>rfl
 |n+1=>by show(xY S n++_).length=_;rw[AG,Yg S n];show n*4+4=_;omega
def KN(S:Nat->Nat->Int):∀n i c,i<n->c<4->(xY S n)[i*4+c]? =some (.int .i64 (S i c))
 |0,i,c,h,_=>by omega
 |n+1,i,c,h,hc=>by
  show(xY S n++[.int .i64 (S n 0),.int .i64 (S n 1),.int .i64 (S n 2),.int .i64 (S n 3)])[i*4+c]? =_;rw[List.getElem?_append,Yg];by_cases hi:i<n
  ·rw[AM o_];exact KN S n i c hi hc
  ·have:i=n:=o_;subst this;rw[AL o_,show i*4+c-i*4=c by omega]
   match c,hc with
   |0,_=>rfl
   |1,_=>rfl
   |2,_=>rfl
   |3,_=>rfl
def Ald(S:Nat->Nat->Int)(n j:Nat)(hj:j<2*n):(xY S n)[j*2]? =some (.int .i64 (Jl S j).1)∧(xY S n)[j*2+1]? =some (.int .i64 (Jl S j).2):=by
 unfold Jl;by_cases h:j%2=0
 ·rw[AM h,show j*2=j/2*4+0 by omega,show j/2*4+0+1=j/2*4+1 by omega];exact⟨KN S n _ 0 o_ o_,KN S n _ 1 o_ o_⟩
 ·rw[AL h,show j*2=j/2*4+2 by omega,show j/2*4+2+1=j/2*4+3 by omega];exact⟨KN S n _ 2 o_ o_,KN S n _ 3 o_ o_⟩
def VZ{w7:World}{base n:Nat}{v:Value}{S:Nat->Nat->Int}(hown:w7.ownsRow base 123 2 v (2*n) (xY S n)){b:Nat}(hb:b<base):∃a cap g,v=.slice a (2*n) cap∧(0<2*n->a=some ⟨g,0,none⟩)∧
  ∀w',Below b w7 w'->Lib.OthersKept 5 (some b) w7 w'->∀j,j<2*n->w'.cell? ⟨g,0+j*2,none⟩=some (.int .i64 (Jl S j).1)∧w'.cell? ⟨g,0+j*2+1,none⟩=some (.int .i64 (Jl S j).2):=by
 rcases hown.2 with⟨rfl,h0⟩|⟨g,cap,cur,rfl,hbg,hg,r1,r2,r3,r4⟩
 ·exact⟨none,0,0,by rw[h0],fun h=>o_,fun _ _ _ j hj=>o_⟩
 ·refine⟨_,cap,g,rfl,fun _=>rfl,fun w' _ hk j hj=>?_⟩;have h1:=hk g _ hg (fun e=>by have e:g=b:=Option.some.inj e;omega) (fun c fz e=>by cases e);obtain⟨q1,q2⟩:=Ald S n j hj;rw[AE,Lib.cell_of_heap h1,Lib.cell_of_heap h1];rw[<-r4,List.getElem?_take_of_lt o_,Array.getElem?_toList]at q1 q2;exact⟨q1,q2⟩
def Ap5:(Tryz.prog.info? 123).map (fun i=>(i.zero,i.size,i.bytes))=some (some (.agg #[.int .i64 0,.int .i64 0]),2,16):=k_
set_option maxHeartbeats 2000000 in
set_option maxRecDepth 1000000 in
def ZZ{w2:World}{b:Nat}{L:List UInt8}{w:World}(h:WrI w2 b L w)(hW:∀v,Below b w2 v->Wd v)(hb:b<=w2.heap.size)(c0 c3 c5 c6 c7 c8 c9 c10 c11 c12 c13 c14:Value)(ca pa wa:Option Addr)(cn cc pn pcp wn wcp cb co pb po wb wo:Nat)
  (cl:Nat->Int) (ub uo un uc db dO dn dc:Nat->Nat) (U Dv:Nat->Nat->Int) (hb2:b<w2.heap.size)
  (hca:0<cn->ca=some ⟨cb,co,none⟩) (hcb:0<cn->cb<b)
  (hc:∀e,e<cn->w2.cell? ⟨cb,co+e*3,none⟩=some (.int .i64 (cl e))∧w2.cell? ⟨cb,co+e*3+1,none⟩=some (.slice (some ⟨ub e,uo e,none⟩) (un e) (uc e))∧w2.cell? ⟨cb,co+e*3+2,none⟩=some (.slice (some ⟨db e,dO e,none⟩) (dn e) (dc e)))
  (hu:∀e,e<cn->(0<un e∧un e+dn e<=900∧ub e<b∧∀j,j<un e->w2.cell? ⟨ub e,uo e+j,none⟩=some (.int .i64 (U e j)))∧(0<dn e∧dn e<=900∧db e<b∧∀j,j<dn e->w2.cell? ⟨db e,dO e+j,none⟩=some (.int .i64 (Dv e j))))
  (hr1:∀e,iR (cl e)=true) (hr2:∀e j,iR (U e j)=true) (hr3:∀e j,iR (Dv e j)=true) (hcn:cn<=1000) (hlen:L.length<=1000000)
  (sa va:Nat->Option Addr) (sb so sn sc vb vo vn vc:Nat->Nat) (S:Nat->Nat->Nat->Int) (Wq:Nat->Nat->Int×Int)
  (hpa:0<pn->pa=some ⟨pb,po,none⟩∧pb<b) (hps:∀e,e<pn->w2.cell? ⟨pb,po+e,none⟩=some (.slice (sa e) (sn e) (sc e)))
  (hsa:∀e,e<pn->sn e<=900∧(0<sn e->sa e=some ⟨sb e,so e,none⟩∧sb e<b)∧∀i,i<sn e->∀c,c<4->w2.cell? ⟨sb e,so e+i*4+c,none⟩=some (.int .i64 (S e i c)))
  (hwa:0<wn->wa=some ⟨wb,wo,none⟩∧wb<b) (hws:∀e,e<wn->w2.cell? ⟨wb,wo+e,none⟩=some (.slice (va e) (vn e) (vc e)))
  (hva:∀e,e<wn->vn e<=900∧(0<vn e->va e=some ⟨vb e,vo e,none⟩∧vb e<b)∧∀j,j<vn e->w2.cell? ⟨vb e,vo e+j*2,none⟩=some (.int .i64 (Wq e j).1)∧w2.cell? ⟨vb e,vo e+j*2+1,none⟩=some (.int .i64 (Wq e j).2))
  (hr4:∀e i c,Rt.iR (S e i c)=true) (hr5:∀e j,iQ (Wq e j)=true) (hpn:pn<=1000) (hwn:wn<=1000):
  Calls Tryz.prog 21 #[.pointer (some ⟨b,0,none⟩),.agg #[c0,.slice ca cn cc,.slice pa pn pcp,c3,.slice wa wn wcp,c5,c6,c7,c8,c9,c10,c11,c12,c13,c14]] w fun e w'=>e=.returned (.tuple #[])∧WrI w2 b (L++EI sCake (fun e=>J4 (cl e) (un e) (U e) (Dv e)) (fun e=>1+un e+dn e) cn++Kv sPiece (fun e=>Jl (S e)) (fun e=>2*sn e) pn++Kv sWorth Wq vn wn) w':=by
 obtain⟨i0,hi,hz0,hz1,hz2⟩:=info_parts lW;obtain⟨i1,hj,hy0,hy1,hy2⟩:=info_parts Ap5;obtain⟨docs,hdocs⟩:∃docs:Array Value,docs= #[c0,.slice ca cn cc,.slice pa pn pcp,c3,.slice wa wn wcp,c5,c6,c7,c8,c9,c10,c11,c12,c13,c14]:=⟨_,rfl⟩;obtain⟨b0,hb0⟩:∃b0,w.heap.size=b0:=⟨_,rfl⟩;have hbb:b<b0:=by have:=h.bel.size;omega
 have h1:WrI w2 b L (w.alloc (.cells docs 39)):=h.alloc hb _;have hbx:(w.alloc (.cells docs 39)).heap[b0]? =some (.cells docs 39 (0,0)):=by rw[<-hb0];exact Cj w _
 obtain⟨PI,hPI⟩:∃PI:List UInt8->World->Prop,∀l v,PI l v↔(WrI w2 b l v∧v.heap[b0]? =some (.cells docs 39 (0,0))):=⟨_,fun _ _=>Iff.rfl⟩;have hPIh:=hid hPI;have hP0:Hid (PI L (w.alloc (.cells docs 39))):=(hPI _ _).2 ⟨h1,hbx⟩;have hWh:=hid hW;have hch:=hid hc;have huh:=hid hu;have hpsh:=hid hps;have hsah:=hid hsa;have hwsh:=hid hws;have hvah:=hid hva;have hpah:=hid hpa;have hwah:=hid hwa;clear hps hsa hws hva hpa hwa;have hdh:=hid hdocs;have hb0h:=hid hb0;clear h1 hbx hPI hW hc hu h;rw[<-hdocs]
 go_enter Tryz.func21,Tryz.ntmps21
 rw[hdocs]at*
 clear hb0
 go_wp2
 have hPIc:Hid (∀l l' v v',PI l v->WrI w2 b l' v'->v'.heap[b0]? =v.heap[b0]? ->PI l' v'):=fun l l' v v' hp hw he=>(hPIh.un l' v').2 ⟨hw,he.trans ((hPIh.un l v).1 hp).2⟩;have hPId:Hid (∀l v,PI l v->v.heap[b0]? =some (.cells #[c0,.slice ca cn cc,.slice pa pn pcp,c3,.slice wa wn wcp,c5,c6,c7,c8,c9,c10,c11,c12,c13,c14] 39 (0,0))):=fun l v hp=>((hPIh.un l v).1 hp).2;have hPIb:Hid (∀l v,PI l v->WrI w2 b l v):=fun l v hp=>(hPIh.un l v).1 hp|>.1;have hT:Hid (∀k,k<=cn->(L++EI sCake (fun e=>J4 (cl e) (un e) (U e) (Dv e)) (fun e=>1+un e+dn e) k).length<=100000000):=fun k hk=>by
  have h1:=Ig (word:=sCake) (x:=fun e=>J4 (cl e) (un e) (U e) (Dv e)) (n:=fun e=>1+un e+dn e) d_ (fun e j=>V6 (hr1 e) (hr2 e) (hr3 e) j) k (fun e he=>by
   have:=(huh.un e o_).1.2.1;show 1+un e+dn e<=1000;omega)
  have h2:k*30000<=1000*30000:=AH _ o_;rw[AG];omega
 go_loopw [16] (fun i wr=>∃k:Nat,i=.int .i64 k∧k<=cn∧PI (L++EI sCake (fun e=>J4 (cl e) (un e) (U e) (Dv e)) (fun e=>1+un e+dn e) k) wr) (fun i _=>cn-(RowKit.intOf i).toNat)
 case atStart=>
  exact⟨0,rfl,Nat.zero_le _,by rw[show L++EI sCake (fun e=>J4 (cl e) (un e) (U e) (Dv e)) (fun e=>1+un e+dn e) 0=L from List.append_nil _];exact hP0⟩
 case round=>
  obtain⟨k,rfl,hk,hp0⟩:=hrel;obtain⟨TL,hTL⟩:∃TL,Hid (TL=L++EI sCake (fun e=>J4 (cl e) (un e) (U e) (Dv e)) (fun e=>1+un e+dn e) k):=⟨_,rfl⟩;rw[<-show TL=_ from hTL]at hp0;have hlT:Hid (TL.length<=100000000):=by
   show _<=_;rw[show TL=_ from hTL];exact hT.un k hk
  by_cases hp:k<cn
  ·have ha':=hca o_;have hcb':=hcb o_;subst ha';have hw:=hPIb.un _ _ hp0;obtain⟨d0,d1,d2⟩:=hch.un k hp;obtain⟨⟨u1,u2,u3,u4⟩,v1,v2,v3,v4⟩:=huh.un k hp;rw[<-hw.bel.cell (p:=⟨cb,co+k*3,none⟩) hcb']at d0;rw[<-hw.bel.cell (p:=⟨cb,co+k*3+1,none⟩) hcb']at d1;rw[<-hw.bel.cell (p:=⟨cb,co+k*3+2,none⟩) hcb']at d2;have hwh:=hid hw;have hnu:Hid (∀v,Below b w2 v->∀j u,((List.range (un k)).map (fun i=>Value.int .i64 (U k i)))[j]? =some u->v.cell? ((⟨ub k,uo k,none⟩:Addr).add j)=some u):=fun v hv=>RS hv u3 u4;have hnd:Hid (∀v,Below b w2 v->∀j u,((List.range (dn k)).map (fun i=>Value.int .i64 (Dv k i)))[j]? =some u->v.cell? ((⟨db k,dO k,none⟩:Addr).add j)=some u):=fun v hv=>RS hv v3 v4;have hbw:Hid (Below b w2 wr):=hw.bel;have hbz:b<=wr.heap.size:=Nat.le_trans hb hw.bel.size;clear hw u4 v4 hT
   go_wp2
   obtain⟨wA,hwA⟩:∃wA,wA=wr.alloc (.cells #[.int .i64 (cl k),.slice (some ⟨ub k,uo k,none⟩) (un k) (uc k),.slice (some ⟨db k,dO k,none⟩) (dn k) (dc k)] 112):=⟨_,rfl⟩;have hA0:wA.heap[wr.heap.size]? =some (.cells #[.int .i64 (cl k),.slice (some ⟨ub k,uo k,none⟩) (un k) (uc k),.slice (some ⟨db k,dO k,none⟩) (dn k) (dc k)] 112 (0,0)):=by rw[hwA];exact Cj wr _
   have e0:wA.cell? ⟨wr.heap.size,0,none⟩=some (.int .i64 (cl k)):=by rw[Lib.cell_of_heap hA0];rfl
   have e1:wA.cell? ⟨wr.heap.size,1,none⟩=some (.slice (some ⟨ub k,uo k,none⟩) (un k) (uc k)):=by rw[Lib.cell_of_heap hA0];rfl
   have e2:wA.cell? ⟨wr.heap.size,2,none⟩=some (.slice (some ⟨db k,dO k,none⟩) (dn k) (dc k)):=by rw[Lib.cell_of_heap hA0];rfl
   have hsA:wA.heap.size=wr.heap.size+1:=by rw[hwA];simp
   have hbA:Below wr.heap.size wr wA:=by rw[hwA];exact(Below.refl _ wr).alloc (AC _) _
   rw[<-hwA];obtain⟨s5,hs5⟩:∃s5,s5=wr.heap.size:=⟨_,rfl⟩;rw[<-hs5]at e0 e1 e2 hsA hbA⊢;have hs5h:=hid hs5;have hA0h:Hid (wA.heap[s5]? =some (.cells #[.int .i64 (cl k),.slice (some ⟨ub k,uo k,none⟩) (un k) (uc k),.slice (some ⟨db k,dO k,none⟩) (dn k) (dc k)] 112 (0,0))):=by rw[hs5];exact hA0
   have hbs:b<=s5:=o_;have hbs2:b<s5:=by have:=hbw.un.size;omega
   clear hwA hA0 hs5 d0 d1 d2;have hq2:1+un k+dn k<=100000:=o_;have hbAh:=hid hbA;clear hbA
   go_region_held3 (fun w'=>w'.cell? ⟨s5,0,none⟩=some (.int .i64 (cl k))∧w'.cell? ⟨s5,1,none⟩=some (.slice (some ⟨ub k,uo k,none⟩) (un k) (uc k))∧w'.cell? ⟨s5,2,none⟩=some (.slice (some ⟨db k,dO k,none⟩) (dn k) (dc k)))
    (first
     |go_keep
     |(refine⟨?_,?_,?_⟩<;>assumption)
     |(go_split_ands
       refine⟨?_,?_,?_⟩
       ·(rw[hgrow.cell_far _ z_ (by first|(simp[Value.ownBlock];done)|(simp[Value.ownBlock];omega))];assumption)
       ·(rw[hgrow.cell_far _ z_ (by first|(simp[Value.ownBlock];done)|(simp[Value.ownBlock];omega))];assumption)
       ·(rw[hgrow.cell_far _ z_ (by first|(simp[Value.ownBlock];done)|(simp[Value.ownBlock];omega))];assumption)))
    (first
     |(refine step_append_lies _ (by rfl) _ _ _ (by rfl) (s5+1) 3 i0 _ 1 8 Tryz.underlying32 hi hz0 hz1 hz2 rfl o_ (.slice (some ⟨s5+1,0,none⟩) 1 1) 1 [.int .i64 (cl k)] (by rfl) (Yj _ (cl k) (s5+1) hsA) ⟨ub k,uo k,none⟩ (un k) (uc k) ((List.range (un k)).map (fun i=>Value.int .i64 (U k i))) (by rfl) y_ (hnu.un _ ((hbw.un.trans (hbAh.un.mono hbs)).drew.alloc z_ _)) (Pz _ _) u1 (by unfold maxLen;omega) o_ z_ (s5+2) z_ ?_;intro g6 cap6 w6 hown6 hgrow hat6 hlt6;
       have hb6:Below (s5+1) wA w6:=((Below.drew (Below.refl (s5+1) wA)).alloc z_ _).grown hgrow z_ (fun k hk=>by cases hk;exact AC _);have hz6:s5+1<=w6.heap.size:=(by have:=hb6.size;omega))
     |(refine step_append_lies _ (by rfl) _ _ _ (by rfl) (s5+1) 3 i0 _ 1 8 Tryz.underlying32 hi hz0 hz1 hz2 rfl o_ (.slice (some ⟨g6,0,none⟩) (1+un k) cap6) (1+un k) ([.int .i64 (cl k)]++(List.range (un k)).map (fun i=>Value.int .i64 (U k i))) (by rfl) hown6 ⟨db k,dO k,none⟩ (dn k) (dc k) ((List.range (dn k)).map (fun i=>Value.int .i64 (Dv k i))) (by rfl) y_ (hnd.un _ ((hbw.un.trans (hbAh.un.mono hbs)).trans (hb6.mono o_))) (Pz _ _) v1 (by unfold maxLen;omega) o_ hz6 w6.heap.size rfl ?_;intro g7 cap7 w7 hown7 hgrow hat7 hlt7;
       have hg6:s5+1<=g6:=(hat6.elim (fun e=>by have e:s5+1=g6:=Option.some.inj e;omega) (fun e=>o_));have hb7:Below (s5+1) wA w7:=hb6.grown hgrow hz6 (fun k hk=>by cases hk;exact hg6);have hw7:WrI w2 b TL w7:=hwh.un.step hb ((hbAh.un.trans (hb7.mono o_)).mono (by rw[show s5=wr.heap.size from hs5h];exact AC _));have hg7:g7≠b:=(hat7.elim (fun e=>by have e:g6=g7:=Option.some.inj e;omega) (fun e=>o_)))
     |(go_at_call 22;refine(kN hw7 hWh.un hb sCake (some ⟨g7,0,none⟩) g7 0 (1+un k+dn k) cap7 (J4 (cl k) (un k) (U k) (Dv k)) (fun _=>rfl) (V6 (hr1 k) (hr2 k) (hr3 k)) (Oz hown7 hg7) (by have h9:TL.length<=100000000:=hlT;have h8:sCake.size=4:=rfl;omega)).mono ?_;rintro e w8 ⟨rfl,h8,hk8⟩;
       have h58:w8.heap[s5]? =some (.cells #[.int .i64 (cl k),.slice (some ⟨ub k,uo k,none⟩) (un k) (uc k),.slice (some ⟨db k,dO k,none⟩) (dn k) (dc k)] 112 (0,0)):=hk8 s5 _ ((hb7.block s5 o_).trans hA0h) (fun e=>by have e:s5=b:=Option.some.inj e;omega) (fun c fz e=>by cases e);have f80:w8.cell? ⟨s5,0,none⟩=some (.int .i64 (cl k)):=(by rw[Lib.cell_of_heap h58];rfl);have f81:w8.cell? ⟨s5,1,none⟩=some (.slice (some ⟨ub k,uo k,none⟩) (un k) (uc k)):=(by rw[Lib.cell_of_heap h58];rfl);have f82:w8.cell? ⟨s5,2,none⟩=some (.slice (some ⟨db k,dO k,none⟩) (dn k) (dc k)):=(by rw[Lib.cell_of_heap h58];rfl)))
   have hbx:=hPId.un _ _ hp0;have hlt0:b0<wr.heap.size:=(A1.1 hbx).1;have h7b:w7.heap[b0]? =wr.heap[b0]? :=by
    rw[hb7.block b0 (by rw[show s5=wr.heap.size from hs5h];omega),hbAh.un.block b0 (by rw[show s5=wr.heap.size from hs5h];omega)]
   have h8b:w8.heap[b0]? =wr.heap[b0]? :=by
    rw[hbx];exact hk8 b0 _ (h7b.trans hbx) (fun e=>by have e:b0=b:=Option.some.inj e;omega) (fun c fz e=>by cases e)
   have hpN:Hid (PI (L++EI sCake (fun e=>J4 (cl e) (un e) (U e) (Dv e)) (fun e=>1+un e+dn e) (k+1)) w8):=hPIc.un _ _ _ _ hp0 (by
    have e9:L++EI sCake (fun e=>J4 (cl e) (un e) (U e) (Dv e)) (fun e=>1+un e+dn e) (k+1)=TL++Ad sCake++BI (J4 (cl k) (un k) (U k) (Dv k)) (1+un k+dn k)++[10]:=by
     rw[show TL=_ from hTL,show EI sCake (fun e=>J4 (cl e) (un e) (U e) (Dv e)) (fun e=>1+un e+dn e) (k+1)=EI sCake (fun e=>J4 (cl e) (un e) (U e) (Dv e)) (fun e=>1+un e+dn e) k++(Ad sCake++BI (J4 (cl k) (un k) (U k) (Dv k)) (1+un k+dn k)++[10])from rfl];simp only[List.append_assoc]
    rw[e9];exact h8) h8b
   clear hbx h7b h8b h8 hk8 h58 f80 f81 f82 hw7 hown7 hown6 hgrow hb7 hb6
   go_wp2
   go_roundw
   case rel=>exact⟨k+1,by go_num,o_,hpN⟩
   case measure=>simp[RowKit.intOf];omega
  ·have hkn:k=cn:=o_;subst hkn;have hbx:=hPId.un _ _ hp0;have f2:wr.cell? ⟨b0,2,none⟩=some (.slice pa pn pcp):=by rw[Lib.cell_of_heap hbx];rfl
   rw[<-show w.heap.size=b0 from hb0h]at f2;have hp0h:=hid hp0;have hlT1:=hid hlT;clear hbx hp0 hlT hT
   go_wp2
   clear f2;have hT2:Hid (∀k,k<=pn->(TL++Kv sPiece (fun e=>Jl (S e)) (fun e=>2*sn e) k).length<=300000000):=fun k hk=>by
    have h1:=KW (word:=sPiece) (x:=fun e=>Jl (S e)) (n:=fun e=>2*sn e) d_ (fun e j=>WL (hr4 e) j) k (fun e he=>by
     have:=(hsah.un e o_).1;show 2*sn e<=2000;omega)
    have h2:k*100000<=1000*100000:=AH _ o_;have h3:TL.length<=100000000:=hlT1;rw[AG];omega
   go_loopw [36] (fun i wr=>∃k:Nat,i=.int .i64 k∧k<=pn∧PI (TL++Kv sPiece (fun e=>Jl (S e)) (fun e=>2*sn e) k) wr) (fun i _=>pn-(RowKit.intOf i).toNat)
   case atStart=>
    refine⟨0,rfl,Nat.zero_le _,?_⟩;rw[show TL++Kv sPiece (fun e=>Jl (S e)) (fun e=>2*sn e) 0=TL from List.append_nil _];exact hp0h
   case round=>
    obtain⟨m,rfl,hm,hq0⟩:=hrel;obtain⟨TM,hTM⟩:∃TM,Hid (TM=TL++Kv sPiece (fun e=>Jl (S e)) (fun e=>2*sn e) m):=⟨_,rfl⟩;rw[<-show TM=_ from hTM]at hq0;have hlM:Hid (TM.length<=300000000):=by
     show _<=_;rw[show TM=_ from hTM];exact hT2.un m hm
    by_cases hp:m<pn
    ·obtain⟨ha',hcb'⟩:=hpah.un o_;subst ha';have hw:=hPIb.un _ _ hq0;have d0:=hpsh.un m hp;obtain⟨u1,u2,u3⟩:=hsah.un m hp;rw[<-hw.bel.cell (p:=⟨pb,po+m,none⟩) hcb']at d0;obtain⟨s5,hs5⟩:∃s5,wr.heap.size=s5:=⟨_,rfl⟩;have hs5h:=hid hs5;have hbz:b<s5:=by have:=hw.bel.size;omega
     have hwh:=hid hw;have u2h:=hid u2;have u3h:=hid u3;have hq0h:=hid hq0;have hlt0:b0<s5:=by
      have:=(A1.1 (hPId.un _ _ hq0)).1;omega
     clear hw u2 u3 hT2 hs5 hq0
     go_wp2
     clear d0
     go_loopw [8,42] (fun e i wv=>∃q:Nat,i=.int .i64 q∧q<=sn m∧wv.ownsRow s5 123 2 e (2*q) (xY (S m) q)∧Below s5 wr wv) (fun e i _=>sn m-(RowKit.intOf i).toNat)
     case atStart=>
      exact⟨0,rfl,Nat.zero_le _,World.ownsRow_nil _ _ _ _,by rw[<-show wr.heap.size=s5 from hs5h];exact Below.refl _ _⟩
     case round=>
      obtain⟨q,rfl,hq,hrow,hbv⟩:=hrel;have hwI:WrI w2 b TM wr:=hwh.un.step hb (by rw[show _=s5 from hs5h];exact hbv);have hz5:s5<=wr.heap.size:=by have:=hbv.size;rw[show _=s5 from hs5h]at this;exact this
      have hrowh:=hid hrow;by_cases hp3:q<sn m
      ·obtain⟨u4,u5⟩:=u2h.un o_;have dd:∀c,c<4->wr.cell? ⟨sb m,so m+q*4+c,none⟩=some (.int .i64 (S m q c)):=fun c hc=>(hwI.bel.cell (p:=⟨sb m,so m+q*4+c,none⟩) u5).trans (u3h.un q hp3 c hc);have d0:wr.cell? ⟨sb m,so m+q*4,none⟩=some (.int .i64 (S m q 0)):=dd 0 o_;have d1:=dd 1 o_;have d2:=dd 2 o_;have d3:=dd 3 o_;have hbvh:=hid hbv;have hnl:((wr.alloc (.cells #[.int .i64 (S m q 0),.int .i64 (S m q 1),.int .i64 (S m q 2),.int .i64 (S m q 3)] 125)).alloc (.cells #[.int .i64 (S m q 0),.int .i64 (S m q 1),.int .i64 (S m q 2),.int .i64 (S m q 3)] 123)).heap[wr.heap.size+1]? =some (.cells #[.int .i64 (S m q 0),.int .i64 (S m q 1),.int .i64 (S m q 2),.int .i64 (S m q 3)] 123 (0,0)):=by
        have h9:=Cj (wr.alloc (.cells #[.int .i64 (S m q 0),.int .i64 (S m q 1),.int .i64 (S m q 2),.int .i64 (S m q 3)] 125)) (.cells #[.int .i64 (S m q 0),.int .i64 (S m q 1),.int .i64 (S m q 2),.int .i64 (S m q 3)] 123);rw[show(wr.alloc (.cells #[.int .i64 (S m q 0),.int .i64 (S m q 1),.int .i64 (S m q 2),.int .i64 (S m q 3)] 125)).heap.size=wr.heap.size+1 by simp]at h9;exact h9
       clear dd hwI hbv hrow;rw[u4]
       go_wp2_with (at_builtin;go_loud (refine wpList_append_lies _ rfl _ _ 57 rfl s5 123 i1 _ 2 16 Tryz.underlying57 hj hy0 hy1 hy2 rfl o_ u8 (2*q) (xY (S m) q) rfl ((hrowh.un.alloc _).alloc _) ⟨wr.heap.size+1,0,none⟩ 2 2 [.int .i64 (S m q 0),.int .i64 (S m q 1),.int .i64 (S m q 2),.int .i64 (S m q 3)] rfl rfl (World.news_of_block (cs:= #[.int .i64 (S m q 0),.int .i64 (S m q 1),.int .i64 (S m q 2),.int .i64 (S m q 3)]) (t:=123) (fr:=(0,0)) hnl) (by simp[Value.oneCell']) o_ (by unfold maxLen;omega) o_ z_ (wr.heap.size+2) y_ ?_;intro g6 cap6 w6 hown6 hgrow hat6 hlt6))
       go_roundw
       case rel=>
        refine⟨q+1,by go_num,o_,?_,?_⟩
        ·rw[show 2*(q+1)=2*q+2 by omega];exact hown6
        ·refine hbvh.un.trans ((((Below.refl s5 wr).alloc hz5 _).alloc z_ _).grown hgrow z_ (fun j hj=>?_));rcases hrowh.un.2 with⟨e,_⟩|⟨g,_,_,e,hg,_⟩
         ·rw[e]at hj;cases hj
         ·rw[e]at hj;cases hj;exact hg
       case measure=>simp[RowKit.intOf];omega
      ·have hqn:q=sn m:=o_;subst hqn;obtain⟨ea,ecap,eg,rfl,he1,he2⟩:=VZ hrowh.un hbz;have hct:=UD hwI hWh.un hb sPiece ea eg 0 (2*sn m) ecap (Jl (S m)) he1 (WL (hr4 m)) he2 (by have h9:TM.length<=300000000:=hlM;have h8:sPiece.size=5:=rfl;omega);have hct2:Calls Tryz.prog 64 #[.pointer (some ⟨b,0,none⟩),.string sPiece,.slice ea (2*sn m) ecap] wr fun e w'=>e=.returned (.tuple #[])∧PI (TL++Kv sPiece (fun e=>Jl (S e)) (fun e=>2*sn e) (m+1)) w':=hct.mono fun e w' ⟨h1,h2,h3⟩=>⟨h1,by
        have hbx:=hPId.un _ _ hq0h;have hbx2:wr.heap[b0]? =some (.cells #[c0,.slice ca k cc,.slice (some ⟨pb,po,none⟩) pn pcp,c3,.slice wa wn wcp,c5,c6,c7,c8,c9,c10,c11,c12,c13,c14] 39 (0,0)):=by rw[hbv.block b0 hlt0];exact hbx
        refine hPIc.un _ _ _ _ hq0h ?_ ?_
        ·have e9:TL++Kv sPiece (fun e=>Jl (S e)) (fun e=>2*sn e) (m+1)=TM++Ad sPiece++FO (Jl (S m)) (2*sn m)++[10]:=by
          rw[show TM=_ from hTM,show Kv sPiece (fun e=>Jl (S e)) (fun e=>2*sn e) (m+1)=Kv sPiece (fun e=>Jl (S e)) (fun e=>2*sn e) m++(Ad sPiece++FO (Jl (S m)) (2*sn m)++[10])from rfl];simp only[List.append_assoc]
         rw[e9];exact h2
        ·rw[hbx];exact h3 b0 _ hbx2 (fun e=>by have e:b0=b:=Option.some.inj e;omega) (fun c fz e=>by cases e)⟩
       clear he1 he2 hct hwI hbv hrow
       go_wp2_with (first|(go_at_call 64;refine hct2.mono ?_))
       rintro e w6 ⟨rfl,h6⟩
       go_wp2
       go_roundw
       case rel=>exact⟨m+1,by go_num,o_,h6⟩
       case measure=>simp[RowKit.intOf];omega
    ·have hmn:m=pn:=o_;subst hmn;have hbx:=hPId.un _ _ hq0;have f4:wr.cell? ⟨b0,4,none⟩=some (.slice wa wn wcp):=by rw[Lib.cell_of_heap hbx];rfl
     rw[<-show w.heap.size=b0 from hb0h]at f4;have hp0h2:=hid hq0;clear hbx hq0 hT2
     go_wp2
     clear f4;have hT3:Hid (∀k,k<=wn->(TM++Kv sWorth Wq vn k).length<=500000000):=fun k hk=>by
      have h1:=KW (word:=sWorth) (x:=Wq) (n:=vn) d_ hr5 k (fun e he=>by
       have:=(hvah.un e o_).1;omega)
      have h2:k*100000<=1000*100000:=AH _ o_;have h3:TM.length<=300000000:=hlM;rw[AG];omega
     go_loopw [62] (fun i wv=>∃q:Nat,i=.int .i64 q∧q<=wn∧PI (TM++Kv sWorth Wq vn q) wv) (fun i _=>wn-(RowKit.intOf i).toNat)
     case atStart=>
      refine⟨0,rfl,Nat.zero_le _,?_⟩;rw[show TM++Kv sWorth Wq vn 0=TM from List.append_nil _];exact hp0h2
     case round=>
      obtain⟨q,rfl,hq,hq0⟩:=hrel;obtain⟨TN,hTN⟩:∃TN,Hid (TN=TM++Kv sWorth Wq vn q):=⟨_,rfl⟩;rw[<-show TN=_ from hTN]at hq0;have hlN:Hid (TN.length<=500000000):=by
       show _<=_;rw[show TN=_ from hTN];exact hT3.un q hq
      have hw:=hPIb.un _ _ hq0;by_cases hp5:q<wn
      ·obtain⟨ha',hcb'⟩:=hwah.un o_;subst ha';have d0:=hwsh.un q hp5;obtain⟨u1,u2,u3⟩:=hvah.un q hp5;rw[<-hw.bel.cell (p:=⟨wb,wo+q,none⟩) hcb']at d0;have hct:=UD hw hWh.un hb sWorth (va q) (vb q) (vo q) (vn q) (vc q) (Wq q) (fun h=>(u2 h).1) (hr5 q) (fun w' h1 _ j hj=>by
        rw[(hw.bel.trans h1).cell (p:=⟨vb q,vo q+j*2,none⟩) (u2 o_).2,(hw.bel.trans h1).cell (p:=⟨vb q,vo q+j*2+1,none⟩) (u2 o_).2];exact u3 j hj) (by have h9:TN.length<=500000000:=hlN;have h8:sWorth.size=5:=rfl;omega)
       have hct2:Calls Tryz.prog 64 #[.pointer (some ⟨b,0,none⟩),.string sWorth,.slice (va q) (vn q) (vc q)] wr fun e w'=>e=.returned (.tuple #[])∧PI (TM++Kv sWorth Wq vn (q+1)) w':=hct.mono fun e w' ⟨h1,h2,h3⟩=>⟨h1,by
        have hbx:=hPId.un _ _ hq0;refine hPIc.un _ _ _ _ hq0 ?_ ?_
        ·have e9:TM++Kv sWorth Wq vn (q+1)=TN++Ad sWorth++FO (Wq q) (vn q)++[10]:=by
          rw[show TN=_ from hTN,show Kv sWorth Wq vn (q+1)=Kv sWorth Wq vn q++(Ad sWorth++FO (Wq q) (vn q)++[10])from rfl];simp only[List.append_assoc]
         rw[e9];exact h2
        ·rw[hbx];exact h3 b0 _ hbx (fun e=>by have e:b0=b:=Option.some.inj e;omega) (fun c fz e=>by cases e)⟩
       clear hct hw u2 u3 hq0 hT3
       go_wp2_with (first|(go_at_call 64;refine hct2.mono ?_))
       rintro e w6 rfl h6
       go_wp2
       go_roundw
       case rel=>exact⟨q+1,by go_num,o_,h6⟩
       case measure=>simp[RowKit.intOf];omega
      ·have hqn:q=wn:=o_;subst hqn;have hfin:Hid (WrI w2 b (L++EI sCake (fun e=>J4 (cl e) (un e) (U e) (Dv e)) (fun e=>1+un e+dn e) k++Kv sPiece (fun e=>Jl (S e)) (fun e=>2*sn e) m++Kv sWorth Wq vn q) wr):=by
        show WrI _ _ _ _;rw[show TN=_ from hTN,show TM=_ from hTM,show TL=_ from hTL]at hw;exact hw
       clear hw hq0 hT3
       go_wp2
       go_end0
       exact⟨rfl,hfin⟩
def eU(v:World):(Instr.index 73 (.agg #[.string sCake,.string sGoods,.string sRent,.string sSettle]) (.int .u8 (IntKind.u8.wrap 0))).run Tryz.prog v=.ok (.string sCake) v:=k_
structure CakeF(w2:World)(b:Nat)(ca pa wa:Option Addr)(cn cc pn pcp wn wcp cb co pb po wb wo:Nat)(ln:Nat->Int)(ub uo un uc db dO dn dc:Nat->Nat)(U Dv:Nat->Nat->Int)(sa va:Nat->Option Addr)(sb so sn sc vb vo vn vc:Nat->Nat)(S:Nat->Nat->Nat->Int)(Wq:Nat->Nat->Int×Int):Prop where
 hca:0<cn->ca=some ⟨cb,co,none⟩
 hcb:0<cn->cb<b
 hc:∀e,e<cn->w2.cell? ⟨cb,co+e*3,none⟩=some (.int .i64 (ln e))∧w2.cell? ⟨cb,co+e*3+1,none⟩=some (.slice (some ⟨ub e,uo e,none⟩) (un e) (uc e))∧w2.cell? ⟨cb,co+e*3+2,none⟩=some (.slice (some ⟨db e,dO e,none⟩) (dn e) (dc e))
 hu:∀e,e<cn->(0<un e∧un e+dn e<=900∧ub e<b∧∀j,j<un e->w2.cell? ⟨ub e,uo e+j,none⟩=some (.int .i64 (U e j)))∧(0<dn e∧dn e<=900∧db e<b∧∀j,j<dn e->w2.cell? ⟨db e,dO e+j,none⟩=some (.int .i64 (Dv e j)))
 hr1:∀e,iR (ln e)=true
 hr2:∀e j,iR (U e j)=true
 hr3:∀e j,iR (Dv e j)=true
 hcn:cn<=1000
 hpa:0<pn->pa=some ⟨pb,po,none⟩∧pb<b
 hps:∀e,e<pn->w2.cell? ⟨pb,po+e,none⟩=some (.slice (sa e) (sn e) (sc e))
 hsa:∀e,e<pn->sn e<=900∧(0<sn e->sa e=some ⟨sb e,so e,none⟩∧sb e<b)∧∀i,i<sn e->∀c,c<4->w2.cell? ⟨sb e,so e+i*4+c,none⟩=some (.int .i64 (S e i c))
 hwa:0<wn->wa=some ⟨wb,wo,none⟩∧wb<b
 hws:∀e,e<wn->w2.cell? ⟨wb,wo+e,none⟩=some (.slice (va e) (vn e) (vc e))
 hva:∀e,e<wn->vn e<=900∧(0<vn e->va e=some ⟨vb e,vo e,none⟩∧vb e<b)∧∀j,j<vn e->w2.cell? ⟨vb e,vo e+j*2,none⟩=some (.int .i64 (Wq e j).1)∧w2.cell? ⟨vb e,vo e+j*2+1,none⟩=some (.int .i64 (Wq e j).2)
 hr4:∀e i c,Rt.iR (S e i c)=true
 hr5:∀e j,iQ (Wq e j)=true
 hpn:pn<=1000
 hwn:wn<=1000
def CakeF.later{w w2:World}{n b:Nat}{ca pa wa:Option Addr}{cn cc pn pcp wn wcp cb co pb po wb wo:Nat}{ln:Nat->Int}{ub uo un uc db dO dn dc:Nat->Nat}{U Dv:Nat->Nat->Int}{sa va:Nat->Option Addr}{sb so sn sc vb vo vn vc:Nat->Nat}{S:Nat->Nat->Nat->Int}{Wq:Nat->Nat->Int×Int}(h:CakeF w n ca pa wa cn cc pn pcp wn wcp cb co pb po wb wo ln ub uo un uc db dO dn dc U Dv sa va sb so sn sc vb vo vn vc S Wq)(hb:Below n w w2)(hn:n<=b):CakeF w2 b ca pa wa cn cc pn pcp wn wcp cb co pb po wb wo ln ub uo un uc db dO dn dc U Dv sa va sb so sn sc vb vo vn vc S Wq where
 hca:=h.hca
 hcb:=fun h0=>Nat.lt_of_lt_of_le (h.hcb h0) hn
 hc:=fun e he=>by
  have hcb:=h.hcb o_;rw[hb.cell (p:=⟨cb,co+e*3,none⟩) hcb,hb.cell (p:=⟨cb,co+e*3+1,none⟩) hcb,hb.cell (p:=⟨cb,co+e*3+2,none⟩) hcb];exact h.hc e he
 hu:=fun e he=>by
  obtain⟨⟨a1,a2,a3,a4⟩,b1,b2,b3,b4⟩:=h.hu e he;exact⟨⟨a1,a2,o_,fun j hj=>by rw[hb.cell (p:=⟨ub e,uo e+j,none⟩) a3];exact a4 j hj⟩,b1,b2,o_,fun j hj=>by rw[hb.cell (p:=⟨db e,dO e+j,none⟩) b3];exact b4 j hj⟩
 hr1:=h.hr1
 hr2:=h.hr2
 hr3:=h.hr3
 hcn:=h.hcn
 hpa:=fun h0=>⟨(h.hpa h0).1,Nat.lt_of_lt_of_le (h.hpa h0).2 hn⟩
 hps:=fun e he=>by rw[hb.cell (p:=⟨pb,po+e,none⟩) (h.hpa o_).2];exact h.hps e he
 hsa:=fun e he=>by
  obtain⟨a1,a2,a3⟩:=h.hsa e he;exact⟨a1,fun h0=>⟨(a2 h0).1,Nat.lt_of_lt_of_le (a2 h0).2 hn⟩,fun i hi c hc=>by rw[hb.cell (p:=⟨sb e,so e+i*4+c,none⟩) (a2 o_).2];exact a3 i hi c hc⟩
 hwa:=fun h0=>⟨(h.hwa h0).1,Nat.lt_of_lt_of_le (h.hwa h0).2 hn⟩
 hws:=fun e he=>by rw[hb.cell (p:=⟨wb,wo+e,none⟩) (h.hwa o_).2];exact h.hws e he
 hva:=fun e he=>by
  obtain⟨a1,a2,a3⟩:=h.hva e he;exact⟨a1,fun h0=>⟨(a2 h0).1,Nat.lt_of_lt_of_le (a2 h0).2 hn⟩,fun j hj=>by rw[hb.cell (p:=⟨vb e,vo e+j*2,none⟩) (a2 o_).2,hb.cell (p:=⟨vb e,vo e+j*2+1,none⟩) (a2 o_).2];exact a3 j hj⟩
 hr4:=h.hr4
 hr5:=h.hr5
 hpn:=h.hpn
 hwn:=h.hwn
def dvT(cn pn wn:Nat)(ln:Nat->Int)(un dn:Nat->Nat)(U Dv:Nat->Nat->Int)(sn vn:Nat->Nat)(S:Nat->Nat->Nat->Int)(Wq:Nat->Nat->Int×Int):List UInt8:=EI sCake (fun e=>J4 (ln e) (un e) (U e) (Dv e)) (fun e=>1+un e+dn e) cn++(Kv sPiece (fun e=>Jl (S e)) (fun e=>2*sn e) pn++Kv sWorth Wq vn wn)
def xW(cn pn wn:Nat)(ln:Nat->Int)(un dn:Nat->Nat)(U Dv:Nat->Nat->Int)(sn vn:Nat->Nat)(S:Nat->Nat->Nat->Int)(Wq:Nat->Nat->Int×Int)(c:Int):List UInt8:=FM sCake++dvT cn pn wn ln un dn U Dv sn vn S Wq++Q8 c
def CakeF.len{w2:World}{b:Nat}{ca pa wa:Option Addr}{cn cc pn pcp wn wcp cb co pb po wb wo:Nat}{ln:Nat->Int}{ub uo un uc db dO dn dc:Nat->Nat}{U Dv:Nat->Nat->Int}{sa va:Nat->Option Addr}{sb so sn sc vb vo vn vc:Nat->Nat}{S:Nat->Nat->Nat->Int}{Wq:Nat->Nat->Int×Int}(h:CakeF w2 b ca pa wa cn cc pn pcp wn wcp cb co pb po wb wo ln ub uo un uc db dO dn dc U Dv sa va sb so sn sc vb vo vn vc S Wq):(dvT cn pn wn ln un dn U Dv sn vn S Wq).length<=300000000:=by
 have h1:=Ig (word:=sCake) (x:=fun e=>J4 (ln e) (un e) (U e) (Dv e)) (n:=fun e=>1+un e+dn e) d_ (fun e j=>V6 (h.hr1 e) (h.hr2 e) (h.hr3 e) j) cn (fun e he=>by
  have:=(h.hu e he).1.2.1;show 1+un e+dn e<=1000;omega)
 have h2:=KW (word:=sPiece) (x:=fun e=>Jl (S e)) (n:=fun e=>2*sn e) d_ (fun e j=>WL (h.hr4 e) j) pn (fun e he=>by
  have:=(h.hsa e he).1;show 2*sn e<=2000;omega)
 have h3:=KW (word:=sWorth) (x:=Wq) (n:=vn) d_ h.hr5 wn (fun e he=>by have:=(h.hva e he).1;omega);have:=h.hcn;have:=h.hpn;have:=h.hwn;unfold dvT;rw[AG,AG];omega
def Agz{w2:World}{b:Nat}{L:List UInt8}{w:World}{ca pa wa:Option Addr}{cn cc pn pcp wn wcp cb co pb po wb wo:Nat}{ln:Nat->Int}{ub uo un uc db dO dn dc:Nat->Nat}{U Dv:Nat->Nat->Int}{sa va:Nat->Option Addr}{sb so sn sc vb vo vn vc:Nat->Nat}{S:Nat->Nat->Nat->Int}{Wq:Nat->Nat->Int×Int}(h:WrI w2 b L w)(hW:∀v,Below b w2 v->Wd v)(hb:b<=w2.heap.size)(hb2:b<w2.heap.size)(hF:CakeF w2 b ca pa wa cn cc pn pcp wn wcp cb co pb po wb wo ln ub uo un uc db dO dn dc U Dv sa va sb so sn sc vb vo vn vc S Wq)(c0 c3 c5 c6 c7 c8 c9 c10 c11 c12 c13 c14:Value)(hlen:L.length<=1000000):
  Calls Tryz.prog 21 #[.pointer (some ⟨b,0,none⟩),.agg #[c0,.slice ca cn cc,.slice pa pn pcp,c3,.slice wa wn wcp,c5,c6,c7,c8,c9,c10,c11,c12,c13,c14]] w fun e w'=>e=.returned (.tuple #[])∧WrI w2 b (L++dvT cn pn wn ln un dn U Dv sn vn S Wq) w':=
 (ZZ h hW hb c0 c3 c5 c6 c7 c8 c9 c10 c11 c12 c13 c14 ca pa wa cn cc pn pcp wn wcp cb co pb po wb wo ln ub uo un uc db dO dn dc U Dv hb2 hF.hca hF.hcb hF.hc hF.hu hF.hr1 hF.hr2 hF.hr3 hF.hcn hlen sa va sb so sn sc vb vo vn vc S Wq hF.hpa hF.hps hF.hsa hF.hwa hF.hws hF.hva hF.hr4 hF.hr5 hF.hpn hF.hwn).mono fun e w' ⟨h1,h2⟩=>⟨h1,by unfold dvT;rw[<-List.append_assoc,<-List.append_assoc];exact h2⟩
set_option maxHeartbeats 4000000 in
set_option maxRecDepth 1000000 in
def VD(w:World)(c5 c6 c7 c9 c10 c12 c13:Value)(pc rr ld cl:Int)(ca pa wa:Option Addr)(cn cc pn pcp wn wcp cb co pb po wb wo:Nat)(ln:Nat->Int)(ub uo un uc db dO dn dc:Nat->Nat)(U Dv:Nat->Nat->Int)(sa va:Nat->Option Addr)(sb so sn sc vb vo vn vc:Nat->Nat)(S:Nat->Nat->Nat->Int)(Wq:Nat->Nat->Int×Int)(ec:Int)
  (hchk:∀w',Below w.heap.size w w'->Calls Tryz.prog 10 #[.agg #[.int .u8 1,.slice ca cn cc,.slice pa pn pcp,.int .u8 pc,.slice wa wn wcp,c5,c6,c7,.int .i64 rr,c9,c10,.int .i64 ld,c12,c13,.int .u8 cl]] w' fun e w''=>e=.returned (.int .i64 ec)∧Below w'.heap.size w' w'')
  (hWd:∀w',Below w.heap.size w w'->Wd w') (hF:ec=0->CakeF w w.heap.size ca pa wa cn cc pn pcp wn wcp cb co pb po wb wo ln ub uo un uc db dO dn dc U Dv sa va sb so sn sc vb vo vn vc S Wq) (hc:ec=0->0<=pc∧pc<=255∧0<=cl∧cl<=255):
  Calls Tryz.prog 6 #[.agg #[.int .u8 1,.slice ca cn cc,.slice pa pn pcp,.int .u8 pc,.slice wa wn wcp,c5,c6,c7,.int .i64 rr,c9,c10,.int .i64 ld,c12,c13,.int .u8 cl]] w fun e w'=>e=.returned (.tuple #[.string (JJ ec (xW cn pn wn ln un dn U Dv sn vn S Wq (cl+pc))),.int .i64 (JG ec (xW cn pn wn ln un dn U Dv sn vn S Wq (cl+pc)))])∧Below w.heap.size w w':=by
 have mx:Tryz.prog.follows .mixedOrders=true:=mixed
 go_enter Tryz.func6,Tryz.ntmps6
 go_wp2_with (first|(go_at_call 10;refine(hchk _ ?_).mono ?_))
 ·exact(Below.refl _ w).alloc (AC _) _
 rintro e w1 ⟨rfl,hb1⟩;by_cases hec:ec=0
 rotate_left
 ·have hec2:(ec !=0)=true:=by simpa using hec
  go_wp2
  go_ret2
  unfold JJ JG;rw[hec2];exact⟨rfl,((Below.refl _ w).alloc (AC _) _).trans (hb1.mono y_)⟩
 ·have hF1:=hF hec;obtain⟨p0,p1,q0,q1⟩:=hc hec;subst hec;clear hF hc
  go_wp2
  have hb0:Below w.heap.size w w1:=((Below.refl _ w).alloc (AC _) _).trans (hb1.mono (Nat.le_of_lt (Bq w _)));have hN:w.heap.size<w1.heap.size:=Nat.lt_of_lt_of_le (Bq w _) hb1.size;have hbox:w1.heap[w.heap.size]? =some (.cells #[.int .u8 1,.slice ca cn cc,.slice pa pn pcp,.int .u8 pc,.slice wa wn wcp,c5,c6,c7,.int .i64 rr,c9,c10,.int .i64 ld,c12,c13,.int .u8 cl] 39 (0,0)):=by
   rw[hb1.block w.heap.size (Bq w _)];exact Cj w _
  obtain⟨w2,hw2⟩:∃w2,w2=w1.alloc (.cells #[.pointer none,.slice none 0 0] 68):=⟨_,rfl⟩;have hI0:WrI w2 w1.heap.size [] w2:=⟨Below.refl _ _,Lib.OthersKept.refl _ _ _,by rw[hw2];exact Lib.IsBuilderF.of (Lib.fresh_isBuilder 68 5 w1)⟩;have hb3:w1.heap.size<w2.heap.size:=by rw[hw2];exact Bq w1 _
  have hb2:w1.heap.size<=w2.heap.size:=by rw[hw2];exact Nat.le_of_lt (Bq w1 _)
  have hbel2:∀k,k<w1.heap.size->w2.heap[k]? =w1.heap[k]? :=fun k hk=>by rw[hw2];exact Below.heap_alloc w1 _ k hk
  have hbox2:∀v,Below w1.heap.size w2 v->v.heap[w.heap.size]? =some (.cells #[.int .u8 1,.slice ca cn cc,.slice pa pn pcp,.int .u8 pc,.slice wa wn wcp,c5,c6,c7,.int .i64 rr,c9,c10,.int .i64 ld,c12,c13,.int .u8 cl] 39 (0,0)):=fun v hv=>by
   rw[hv.block _ hN,hbel2 _ hN];exact hbox
  have hbv:∀v,Below w1.heap.size w2 v->Below w.heap.size w v:=fun v hv=>hb0.trans (((Below.refl _ w1).alloc (AC _) _).trans (hw2▸hv)|>.mono o_);have hW2:∀v,Below w1.heap.size w2 v->Wd v:=fun v hv=>hWd v (hbv v hv);rw[<-hw2];clear hw2 hbel2;generalize hbb:w1.heap.size=b at*
  obtain⟨Cq,hq1,hq2⟩:∃Cq:World->Prop,(∀v,Cq v->WrI w2 b [] v)∧∀v,WrI w2 b [] v->Cq v:=⟨fun v=>WrI w2 b [] v,fun _ h=>h,fun _ h=>h⟩;refine BB (C:=Cq) 10 mx k_ (hq2 w2.drew hI0.drew) ?_;have hq:=hid hq1;have hcall:∀v,Cq v->Calls Tryz.prog 20 #[] v fun e w'=>e=.returned (.agg #[.string sCake,.string sGoods,.string sRent,.string sSettle])∧Cq w':=fun v hv=>(Oe (hq1 v hv) hb2).mono fun e w' ⟨he,h⟩=>⟨he,hq2 _ h⟩;have hcl:=hid hcall;have hld:Hid (∀v,Cq v->v.cell? ⟨w.heap.size,0,none⟩=some (.int .u8 1)):=fun v hv=>by rw[Lib.cell_of_heap (hbox2 v (hq1 v hv).bel)];rfl
  have hFh:=hid hF1;clear hq1 hq2 hcall hchk hF1;dsimp only[List.take,List.drop];refine wpQuiet_step (fun K hK=>?_)
  go_simp
  refine⟨_,fun v hv=>rfl,hK _ ?_⟩;clear hK K;refine wpQuiet_step (fun K hK=>?_)
  go_simp
  refine⟨_,fun v hv=>rfl,hK _ ?_⟩;clear hK K;refine wpQuiet_step (fun K hK=>?_)
  go_simp
  refine⟨_,fun v hv=>rfl,hK _ ?_⟩;clear hK K;refine wpQuiet_step (fun K hK=>?_)
  go_simp
  refine⟨.agg #[.string sCake,.string sGoods,.string sRent,.string sSettle],fun v hv=>hcl.un v hv,hK _ ?_⟩;clear hK K;refine wpQuiet_step (fun K hK=>?_)
  go_simp
  refine⟨_,fun v hv=>rfl,hK _ ?_⟩;clear hK K;refine wpQuiet_step (fun K hK=>?_)
  go_simp
  refine⟨.int .u8 1,fun v hv=>?_,hK _ ?_⟩
  ·rw[hld.un v hv];exact⟨rfl,rfl⟩
  clear hK K;refine wpQuiet_step (fun K hK=>?_)
  go_simp
  refine⟨_,fun v hv=>rfl,hK _ ?_⟩;clear hK K;refine wpQuiet_step (fun K hK=>?_)
  go_simp
  refine⟨.string sCake,fun v hv=>?_,hK _ ?_⟩
  ·rw[eU v];exact⟨rfl,rfl⟩
  clear hK K;refine wpQuiet_step (fun K hK=>?_)
  go_simp
  refine⟨.string (sDocument++sCake),fun v hv=>?_,hK _ ?_⟩
  ·rw[AL (show¬9223372036854775807<9+sCake.size by have:sCake.size=4:=rfl;omega)];exact⟨rfl,rfl⟩
  clear hK K;refine wpQuiet_step (fun K hK=>?_)
  go_simp
  refine⟨.string (sDocument++sCake++⟨#[10]⟩),fun v hv=>?_,hK _ ?_⟩
  ·rw[AL (show¬9223372036854775807<sDocument.size+sCake.size+1 by have:sCake.size=4:=rfl;have:sDocument.size=9:=rfl;omega)];exact⟨rfl,rfl⟩
  clear hK K;refine wpQuiet_nil ?_;intro w3 h3;have h3':WrI w2 b [] w3:=hq.un w3 h3;have hsz:([]:List UInt8).length+(sDocument++sCake++⟨#[10]⟩).size<=140737488355328:=d_;have hS:[]++Ad (sDocument++sCake++⟨#[10]⟩)=FM sCake:=by rw[Ei,Ei];rfl
  generalize sDocument++sCake++⟨#[10]⟩=Sx at*
  clear hq hcl hld h3
  go_wp2_with (first|(go_at_call 19;refine(Oa h3' hb2 Sx hsz).mono ?_))
  rintro e w4 ⟨rfl,h4⟩;rw[hS]at h4;clear hS hsz h3';have hh2:=hid hbox2;have hF2:CakeF w2 b ca pa wa cn cc pn pcp wn wcp cb co pb po wb wo ln ub uo un uc db dO dn dc U Dv sa va sb so sn sc vb vo vn vc S Wq:=hFh.un.later (hbv w2 (Below.refl _ _)) o_;have hb4:=hbox2 w4 h4.bel;have f0:w4.cell? ⟨w.heap.size,0,none⟩=some (.int .u8 1):=by rw[Lib.cell_of_heap hb4];rfl
  have f1:w4.cell? ⟨w.heap.size,1,none⟩=some (.slice ca cn cc):=by rw[Lib.cell_of_heap hb4];rfl
  have f2:w4.cell? ⟨w.heap.size,2,none⟩=some (.slice pa pn pcp):=by rw[Lib.cell_of_heap hb4];rfl
  have f3:w4.cell? ⟨w.heap.size,3,none⟩=some (.int .u8 pc):=by rw[Lib.cell_of_heap hb4];rfl
  have f4:w4.cell? ⟨w.heap.size,4,none⟩=some (.slice wa wn wcp):=by rw[Lib.cell_of_heap hb4];rfl
  have f5:w4.cell? ⟨w.heap.size,5,none⟩=some (c5):=by rw[Lib.cell_of_heap hb4];rfl
  have f6:w4.cell? ⟨w.heap.size,6,none⟩=some (c6):=by rw[Lib.cell_of_heap hb4];rfl
  have f7:w4.cell? ⟨w.heap.size,7,none⟩=some (c7):=by rw[Lib.cell_of_heap hb4];rfl
  have f8:w4.cell? ⟨w.heap.size,8,none⟩=some (.int .i64 rr):=by rw[Lib.cell_of_heap hb4];rfl
  have f9:w4.cell? ⟨w.heap.size,9,none⟩=some (c9):=by rw[Lib.cell_of_heap hb4];rfl
  have f10:w4.cell? ⟨w.heap.size,10,none⟩=some (c10):=by rw[Lib.cell_of_heap hb4];rfl
  have f11:w4.cell? ⟨w.heap.size,11,none⟩=some (.int .i64 ld):=by rw[Lib.cell_of_heap hb4];rfl
  have f12:w4.cell? ⟨w.heap.size,12,none⟩=some (c12):=by rw[Lib.cell_of_heap hb4];rfl
  have f13:w4.cell? ⟨w.heap.size,13,none⟩=some (c13):=by rw[Lib.cell_of_heap hb4];rfl
  have f14:w4.cell? ⟨w.heap.size,14,none⟩=some (.int .u8 cl):=by rw[Lib.cell_of_heap hb4];rfl
  obtain⟨LL,hLL⟩:∃LL,Hid (LL=FM sCake++dvT cn pn wn ln un dn U Dv sn vn S Wq):=⟨_,rfl⟩;have hlL:Hid (LL.length<=400000000):=by
   show _<=_;rw[show LL=_ from hLL,AG];have h1:=hF2.len;have h2:(FM sCake).length<=100:=d_;omega
  have hct:=Agz h4 hW2 hb2 hb3 hF2 (.int .u8 1) (.int .u8 pc) c5 c6 c7 (.int .i64 rr) c9 c10 (.int .i64 ld) c12 c13 (.int .u8 cl) d_;rw[<-show LL=_ from hLL]at hct;have hbx:Hid (∀v L,WrI w2 b L v->v.cell? ⟨w.heap.size,14,none⟩=some (.int .u8 cl)∧v.cell? ⟨w.heap.size,3,none⟩=some (.int .u8 pc)):=fun v L hv=>by
   rw[Lib.cell_of_heap (hbox2 v hv.bel),Lib.cell_of_heap (hbox2 v hv.bel)];exact⟨rfl,rfl⟩
  clear hb4 hF2 hbox hb1 hFh hI0 h4 hbox2
  go_wp2_with (first|(go_at_call 21;refine hct.mono ?_))
  rintro e w6 ⟨rfl,h6⟩;clear hct f0 f1 f2 f3 f4 f5 f6 f7 f8 f9 f10 f11 f12 f13 f14;have i1:∀j:Nat,iR ((fun _:Nat=>cl+pc) j)=true:=fun j=>iR_iff.2 ⟨by dsimp only;omega,by dsimp only;omega⟩;have i2:Hid (∀j,j<1->(#[Value.int .i64 (cl+pc)]:Array Value)[j]? =some (.int .i64 ((fun _:Nat=>cl+pc) j))):=fun j hj=>by
   have:j=0:=o_;subst this;rfl
  have i3':LL.length+sClaims.size+1*22<=1000000000000:=by
   have h1:LL.length<=400000000:=hlL;have h3:sClaims.size=6:=rfl;omega
  have hT2:Hid (LL++Ad sClaims++BI (fun _=>cl+pc) 1++[10]=xW cn pn wn ln un dn U Dv sn vn S Wq (cl+pc)):=by
   show _=_;rw[show LL=_ from hLL,xW];simp only[Q8,List.append_assoc]
  have f0:=hid hb3;clear hb3;obtain⟨f14,f3⟩:=hbx.un w6 _ h6;have i4:w6.heap.size≠b:=by have:=h6.bel.size;have h:b<w2.heap.size:=f0;omega
  have h6a:=h6.alloc hb2 (.cells #[.int .i64 (cl+pc)] 3);have h6n:Hid ((w6.alloc (.cells #[.int .i64 (cl+pc)] 3)).heap[w6.heap.size]? =some (.cells #[.int .i64 (cl+pc)] 3 (0,0))):=Cj w6 _
  go_wp2_with (first|(go_at_call 22;refine(GU h6a hW2 hb2 sClaims w6.heap.size 1 1 (fun _=>cl+pc) #[.int .i64 (cl+pc)] (0,0) i1 i4 h6n i2 i3').mono ?_))
  rintro e w7 ⟨rfl,h7⟩;obtain⟨T,hT⟩:∃T,T=LL++Ad sClaims++BI (fun _=>cl+pc) 1++[10]:=⟨_,rfl⟩;rw[<-hT]at h7;have hT3:Hid (xW cn pn wn ln un dn U Dv sn vn S Wq (cl+pc)=T):=by
   show _=_;rw[hT];exact hT2.un.symm
  have hne:T≠[]:=by rw[hT];simp
  have hbz:Below w.heap.size w w7:=hbv w7 h7.bel;clear hT hT2 f14 f3 h6 h6a h6n i1 i2 i3' i4 hbx
  go_wp2_with (first|(go_at_call 23;refine(Si b b T _ h7.bld).mono ?_))
  rintro e w8 ⟨rfl,rfl⟩;have hfin:Hid (∀v,Below b w8 v->Below w.heap.size w v):=fun v hv=>hbz.trans (hv.mono o_);by_cases hbig:60000<T.length
  ·have hdb:decide (60000<T.length)=true:=A4 hbig;have hd2:=hid hdb;clear hdb
   go_wp2
   go_ret2
   rw[show xW cn pn wn ln un dn U Dv sn vn S Wq (cl+pc)=T from hT3];unfold JJ JG;rw[show decide (60000<T.length)=true from hd2];exact⟨rfl,hbz⟩
  ·have hd2:Hid (decide (60000<T.length)=false):=AB hbig
   go_wp2_with (first|(go_at_call 24;refine(NP b b T _ h7.bld hne).mono ?_))
   rintro e w9 ⟨rfl,h9⟩
   go_wp2
   go_ret2
   rw[show xW cn pn wn ln un dn U Dv sn vn S Wq (cl+pc)=T from hT3];unfold JJ JG;rw[show decide (60000<T.length)=false from hd2];exact⟨rfl,hfin.un w9 h9⟩
end Go.Proofs.YtnljjjghpgdmoaaGreatDoor

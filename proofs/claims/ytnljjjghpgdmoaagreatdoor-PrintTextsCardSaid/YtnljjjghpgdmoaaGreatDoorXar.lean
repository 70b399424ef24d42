/- A part of the proof of PrintTexts. No conditions. -/
import Derived.Test.YtnljjjghpgdmoaaGreatDoorXaq
set_option linter.all false
namespace Go.Proofs.YtnljjjghpgdmoaaGreatDoor
open Go.Ev Go.Lib Go.RowKit
set_option maxRecDepth 100000
def Adu:Dl:={τ:=[.v (.c (.pointer (some ⟨0,0,some 0⟩)))]++pu 6++[.v (.sl 1),.v (.bool),.v (.sl 2),.v (.int .i64)]++pu 252,saved:=[[.v (.c (.pointer (some ⟨3,0,some 0⟩))),.v (.sl 4),.v (.c (.pointer (some ⟨0,0,some 0⟩)))]],mem:=[.box [.v (.int .u8),.v (.sl 5),.v (.sl 6),.v (.int .u8),.v (.sl 7),.v (.sl 8),.v (.sl 9),.v (.sl 10),.v (.int .i64),.v (.sl 11),.v (.slw 12),.v (.int .i64),.v (.sl 13),.v (.sl 14),.v (.int .u8)],.row JD true,.row Qw true,.box [.v (.c (.int .u8 0)),.v (.c (.slice none 0 0)),.v (.c (.slice none 0 0)),.v (.c (.int .u8 0)),.v (.c (.slice none 0 0)),.v (.c (.slice none 0 0)),.v (.c (.slice none 0 0)),.v (.c (.slice none 0 0)),.v (.c (.int .i64 0)),.v (.c (.slice none 0 0)),.v (.c (.slice none 0 0)),.v (.c (.int .i64 0)),.v (.c (.slice none 0 0)),.v (.c (.slice none 0 0)),.v (.c (.int .u8 0))],.row [.str] true,.deep DV,.deep Fh,.deep Es,.deep Cc,.row Ar true,.deep Cc,.row Ar true,.row Ar true,.row Ar true,.row Ht true]}
structure A_lsz where
 wl:Nat
 ok:Bool
 xn:Nat
 ii:Int
 ln:Nat
 k:Int
 can:Nat
 pin:Nat
 pc:Int
 won:Nat
 gvn:Nat
 aan:Nat
 fvn:Nat
 rr:Int
 lrn:Nat
 lpo:Nat
 lpn:Nat
 ld:Int
 ban:Nat
 pan:Nat
 cl:Int
 qq:Row
 sr:Row
 li:Row
 ca:Row
 pi:Row
 wo:Row
 gv:Row
 aa:Row
 fv:Row
 lr:Row
 lp:Row
 ba:Row
 pa:Row
def wH(its:List It):Option A_lsz:=match its with|(.n wl::.b ok::.n xn::.i ii::.n ln::.i k::.n can::.n pin::.i pc::.n won::.n gvn::.n aan::.n fvn::.i rr::.n lrn::.n lpo::.n lpn::.i ld::.n ban::.n pan::.i cl::.r qq::.r sr::.r li::.r ca::.r pi::.r wo::.r gv::.r aa::.r fv::.r lr::.r lp::.r ba::.r pa::[])=>some ⟨wl,ok,xn,ii,ln,k,can,pin,pc,won,gvn,aan,fvn,rr,lrn,lpo,lpn,ld,ban,pan,cl,qq,sr,li,ca,pi,wo,gv,aa,fv,lr,lp,ba,pa⟩|_=>none
def kE(x:A_lsz):Bool:=x.ii=0∧x.wl=x.qq.n∧x.xn=x.sr.n∧x.qq.n<=1000000∧x.sr.n=0
def c_lsz_iff{x:A_lsz}:=@Bl _ kE _ _ rfl x
def lsz:FoldL A_lsz (Row):=⟨30,8,[0,7,8,9,10,8039080009],[0,6,7,8,9],Adu,wH,fun x j a=>(.n x.wl::.b x.ok::.n (a.n)::.i (((2*j:Nat):Int))::.n x.ln::.i x.k::.n x.can::.n x.pin::.i x.pc::.n x.won::.n x.gvn::.n x.aan::.n x.fvn::.i x.rr::.n x.lrn::.n x.lpo::.n x.lpn::.i x.ld::.n x.ban::.n x.pan::.i x.cl::.r x.qq::.r (a)::.r x.li::.r x.ca::.r x.pi::.r x.wo::.r x.gv::.r x.aa::.r x.fv::.r x.lr::.r x.lp::.r x.ba::.r x.pa::[]),fun x=>x.qq.n/2,kE,fun x=>x.sr,fun x j a=>WG a (x.qq.I (2*j) 0) (x.qq.I (2*j) 1) (x.qq.I (2*j+1) 0) (x.qq.I (2*j+1) 1),fun x a K=>K (.exit 0) ⟨[.pointer (some ⟨0,0,some 0⟩)]++us 6++[S_ 1 0 x.wl,.bool x.ok,.slice (some ⟨2,0,some 0⟩) ((a.n)) 0]++us 253,[[.pointer (some ⟨3,0,some 0⟩),S_ 4 0 x.ln,.pointer (some ⟨0,0,some 0⟩)]],[some (.box [.int .u8 x.k,S_ 5 0 x.can,S_ 6 0 x.pin,.int .u8 x.pc,S_ 7 0 x.won,S_ 8 0 x.gvn,S_ 9 0 x.aan,S_ 10 0 x.fvn,i64 x.rr,S_ 11 0 x.lrn,S_ 12 x.lpo x.lpn,i64 x.ld,S_ 13 0 x.ban,S_ 14 0 x.pan,.int .u8 x.cl]),Ij JD x.qq,some (.row Qw true ((a))),some (.box [.int .u8 0,.slice none 0 0,.slice none 0 0,.int .u8 0,.slice none 0 0,.slice none 0 0,.slice none 0 0,.slice none 0 0,i64 0,.slice none 0 0,.slice none 0 0,i64 0,.slice none 0 0,.slice none 0 0,.int .u8 0]),some (.row [.str] true x.li),N7 DV x.ca,N7 Fh x.pi,N7 Es x.wo,N7 Cc x.gv,Ij Ar x.aa,N7 Cc x.fv,Ij Ar x.lr,Ij Ar x.lp,Ij Ar x.ba,Ij Ht x.pa]⟩⟩
noncomputable def aN(nC:Row->Bool)(nR:Row->Row)(nB qC:Row->Bool)(qR:Row->Row)(qB:Row->Bool):Cx:=AP Tryz.prog fns [(74,JY nC nR nB),(73,Ko qC qR qB)] [lsz.C]
def Aey(nC:Row->Bool)(nR:Row->Row)(nB qC:Row->Bool)(qR:Row->Row)(qB:Row->Bool)(R:St->OD)(K:X->St->OD)(q wl:Nat)(ok:Bool)(xn:Nat)(ii:Int)(ln:Nat)(k:Int)(can pin:Nat)(pc:Int)(won gvn aan fvn:Nat)(rr:Int)(lrn lpo lpn:Nat)(ld:Int)(ban pan:Nat)(cl:Int)(qq sr li ca pi wo gv aa fv lr lp ba pa:Row):Ak (aN nC nR nB qC qR qB) 30 8 q (bst Adu (.n wl::.b ok::.n xn::.i ii::.n ln::.i k::.n can::.n pin::.i pc::.n won::.n gvn::.n aan::.n fvn::.i rr::.n lrn::.n lpo::.n lpn::.i ld::.n ban::.n pan::.i cl::.r qq::.r sr::.r li::.r ca::.r pi::.r wo::.r gv::.r aa::.r fv::.r lr::.r lp::.r ba::.r pa::[])) (BF [0,7,8,9,10,8039080009] (some [0,6,7,8,9]) R K)=br (IntKind.i64.wrap (ii+1)<(wl:Int)) (br (0<=ii&&ii<(wl:Int)) (br (0<=IntKind.i64.wrap (ii+1)&&IntKind.i64.wrap (ii+1)<(wl:Int)) (br (xn+(w_ (((((Row.zeros 1).setI 0 0 (qq.I (0+ii.toNat) 0)).setI 0 1 (qq.I (0+ii.toNat) 1)).setI 0 2 (qq.I (0+(IntKind.i64.wrap (ii+1)).toNat) 0)).setI 0 (0+1+1+1) (qq.I (0+(IntKind.i64.wrap (ii+1)).toNat) 1)) 0 1).n<=10000000000) (R ⟨[.pointer (some ⟨0,0,some 0⟩)]++us 6++[S_ 1 0 wl,.bool ok,S_ 2 0 (xn+1),i64 (IntKind.i64.wrap (ii+2))]++us 252,[[.pointer (some ⟨3,0,some 0⟩),S_ 4 0 ln,.pointer (some ⟨0,0,some 0⟩)]],[some (.box [.int .u8 k,S_ 5 0 can,S_ 6 0 pin,.int .u8 pc,S_ 7 0 won,S_ 8 0 gvn,S_ 9 0 aan,S_ 10 0 fvn,i64 rr,S_ 11 0 lrn,S_ 12 lpo lpn,i64 ld,S_ 13 0 ban,S_ 14 0 pan,.int .u8 cl]),Ij JD qq,some (.row Qw true ((w_ sr 0 xn).app (w_ (((((Row.zeros 1).setI 0 0 (qq.I (0+ii.toNat) 0)).setI 0 1 (qq.I (0+ii.toNat) 1)).setI 0 2 (qq.I (0+(IntKind.i64.wrap (ii+1)).toNat) 0)).setI 0 3 (qq.I (0+(IntKind.i64.wrap (ii+1)).toNat) 1)) 0 1))),some (.box [.int .u8 0,.slice none 0 0,.slice none 0 0,.int .u8 0,.slice none 0 0,.slice none 0 0,.slice none 0 0,.slice none 0 0,i64 0,.slice none 0 0,.slice none 0 0,i64 0,.slice none 0 0,.slice none 0 0,.int .u8 0]),some (.row [.str] true li),N7 DV ca,N7 Fh pi,N7 Es wo,N7 Cc gv,Ij Ar aa,N7 Cc fv,Ij Ar lr,Ij Ar lp,Ij Ar ba,Ij Ht pa]⟩) none) none) none) (K (.exit 0) ⟨[.pointer (some ⟨0,0,some 0⟩)]++us 6++[S_ 1 0 wl,.bool ok,S_ 2 0 xn]++us 253,[[.pointer (some ⟨3,0,some 0⟩),S_ 4 0 ln,.pointer (some ⟨0,0,some 0⟩)]],[some (.box [.int .u8 k,S_ 5 0 can,S_ 6 0 pin,.int .u8 pc,S_ 7 0 won,S_ 8 0 gvn,S_ 9 0 aan,S_ 10 0 fvn,i64 rr,S_ 11 0 lrn,S_ 12 lpo lpn,i64 ld,S_ 13 0 ban,S_ 14 0 pan,.int .u8 cl]),Ij JD qq,Ij Qw sr,some (.box [.int .u8 0,.slice none 0 0,.slice none 0 0,.int .u8 0,.slice none 0 0,.slice none 0 0,.slice none 0 0,.slice none 0 0,i64 0,.slice none 0 0,.slice none 0 0,i64 0,.slice none 0 0,.slice none 0 0,.int .u8 0]),some (.row [.str] true li),N7 DV ca,N7 Fh pi,N7 Es wo,N7 Cc gv,Ij Ar aa,N7 Cc fv,Ij Ar lr,Ij Ar lp,Ij Ar ba,Ij Ht pa]⟩):=k_
def Alf(nC:Row->Bool)(nR:Row->Row)(nB qC:Row->Bool)(qR:Row->Row)(qB:Row->Bool):Ah (aN nC nR nB qC qR qB) lsz.C:=lsz.ok (fun x j a=>a.n=j) k_
 (fun its x h hc=>by
  replace h:wH its=some x:=h;unfold wH at h;split at h
  ·cases h;have h:=c_lsz_iff.1 hc;dsimp only at h;obtain⟨rfl,rfl,rfl,_⟩:=h;rfl
  ·cases h)
 (fun x hc=>by have:=c_lsz_iff.1 hc;show x.qq.n/2<18446744073709551616;omega)
 (fun x hc=>by
  exact(c_lsz_iff.1 hc).2.2.2.2)
 (fun x j a hc hi hI=>by
  replace hI:a.n=j:=hI;show a.n+1=j+1;omega)
 (fun q ⟨wl,ok,xn0,ii0,ln,k,can,pin,pc,won,gvn,aan,fvn,rr,lrn,lpo,lpn,ld,ban,pan,cl,qq,sr0,li,ca,pi,wo,gv,aa,fv,lr,lp,ba,pa⟩ j a hc hi hI R K=>by
  obtain⟨h1,h2,h3,h4,h5⟩:=c_lsz_iff.1 hc;dsimp only at*
  replace hi:j<qq.n/2:=hi;refine(Aey nC nR nB qC qR qB R K q wl ok ((a.n)) ((((2*j:Nat):Int))) ln k can pin pc won gvn aan fvn rr lrn lpo lpn ld ban pan cl qq ((a)) li ca pi wo gv aa fv lr lp ba pa).trans ?_;replace hI:a.n=j:=hI;replace hi:j<qq.n/2:=hi;subst h2;have e1:IntKind.i64.wrap (((2*j:Nat):Int)+1)=((2*j+1:Nat):Int):=by rw[wrap64 o_ o_];omega
  have e2:IntKind.i64.wrap (((2*j:Nat):Int)+2)=((2*(j+1):Nat):Int):=by rw[wrap64 o_ o_];omega
  rw[e1,e2,A9,A9,AE (2*j),AE (2*j+1)];refine Aq (A4 o_) (Aq (by simp only[A2,A3];omega) (Aq (by simp only[A2,A3];omega) (Aq (A4 (by rw[wn_];omega)) ?_)));rfl)
 (fun q ⟨wl,ok,xn0,ii0,ln,k,can,pin,pc,won,gvn,aan,fvn,rr,lrn,lpo,lpn,ld,ban,pan,cl,qq,sr0,li,ca,pi,wo,gv,aa,fv,lr,lp,ba,pa⟩ a hc hI R K=>by
  obtain⟨h1,h2,h3,h4,h5⟩:=c_lsz_iff.1 hc;dsimp only at*
  refine(Aey nC nR nB qC qR qB R K q wl ok ((a.n)) ((((2*(qq.n/2):Nat):Int))) ln k can pin pc won gvn aan fvn rr lrn lpo lpn ld ban pan cl qq ((a)) li ca pi wo gv aa fv lr lp ba pa).trans ?_;subst h2;have e1:IntKind.i64.wrap (((2*(qq.n/2):Nat):Int)+1)=((2*(qq.n/2)+1:Nat):Int):=by rw[wrap64 o_ o_];omega
  rw[e1];exact BC (AB o_) rfl)
def zPc(x:Px)(ln:Nat)(li qq:Row)(ok:Bool):Bool:=kE {wl:=qq.n,ok:=ok,xn:=0,ii:=0,ln:=ln,k:=x.k,can:=x.ca.n,pin:=x.pi.n,pc:=x.pc,won:=x.wo.n,gvn:=x.gv.n,aan:=x.aa.n,fvn:=x.fv.n,rr:=x.rr,lrn:=x.lr.n,lpo:=x.lpo,lpn:=x.lpn,ld:=x.ld,ban:=x.ba.n,pan:=x.pa.n,cl:=x.cl,qq:=qq,sr:=Row.nil,li:=li,ca:=x.ca,pi:=x.pi,wo:=x.wo,gv:=x.gv,aa:=x.aa,fv:=x.fv,lr:=x.lr,lp:=x.lp,ba:=x.ba,pa:=x.pa}
def Amk(nC:Row->Bool)(nR:Row->Row)(nB qC:Row->Bool)(qR:Row->Row)(qB:Row->Bool)(K:Value->St->OD)(w1 wn ln:Nat)(wr li:Row)(x:Px):Nu (aN nC nR nB qC qR qB) K w1 wn ln wr li x sPiece=br (qC (w_ wr w1 wn)) (br (zPc x ln li (qR (w_ wr w1 wn)) (qB (w_ wr w1 wn))) (br (x.pi.n+1<=10000000000) (br (qB (w_ wr w1 wn)) (kZ K ln li (((qR (w_ wr w1 wn)).n:Int).tmod 2==0) {x with pi:=Em x.pi (Ae (FP (qR (w_ wr w1 wn))))}) (kZ K ln li false {x with pi:=Em x.pi (Ae (FP (qR (w_ wr w1 wn))))})) none) none) none:=k_
def QO(t:Row)(x:Px):Bool:=AV t&&decide (x.ca.n<=1000000∧x.pi.n<=1000000∧x.wo.n<=1000000∧x.gv.n<=1000000∧x.fv.n<=1000000∧x.pa.n<=1000000)
def Ap7(r:Row):(Cf r).n<=r.n:=by
 cases hB:En r with
 |true=>rw[<-(Xa hB).2];exact Aew r
 |false=>
  have:Cf r=.nil:=by
   unfold Cf;unfold En at hB;rw[show(bC r).1=true by simpa using hB];rfl
  rw[this];exact Nat.zero_le _
def Anc(n:Nat):((n:Int).tmod 2==0)=evB n:=by
 rw[iD];unfold evB;by_cases h:n%2=0
 ·rw[A4 h,show n-2*(n/2)=0 by omega];rfl
 ·rw[AB h,show n-2*(n/2)=1 by omega];rfl
def Ag5:∀p,p∈[(74,JY AV Cf En),(73,Ko AV BL BP)]->DenW Tryz.prog Wd p.1 p.2:=by
 intro p h;simp only[A8,A7,or_false]at h;rcases h with rfl|rfl
 ·exact bU
 ·exact kV
def EO:LH (Eh AV Cf En AV BL BP) Wd:=BA enter mixed Ag5 AX
def Ab0:LH (aN AV Cf En AV BL BP) Wd:=BA enter mixed Ag5 (Aw (Alf ..) AX)
def Aaz:LH (Acu AV Cf En AV BL BP) Wd:=fun wb hW=>by
 have h:CxAt (AP Tryz.prog fns [(74,JY AV Cf En),(73,Ko AV BL BP)] []) wb:=(BA enter mixed Ag5 AX:LH _ Wd) wb hW;exact{enter:=h.enter,den:=h.den,mixed:=h.mixed,ext:=h.ext,inpl:=h.inpl,loop:=fun f b hb L hL=>by cases hL}
def WT(J:Value->St->OD)(ln:Nat)(li:Row)(r:Bool×Px):OD:=kZ J ln li r.1 r.2
def Iu{t:Row}{x:Px}(h:QO t x=true):AV t=true∧x.ca.n<=1000000∧x.pi.n<=1000000∧x.wo.n<=1000000∧x.gv.n<=1000000∧x.fv.n<=1000000∧x.pa.n<=1000000:=by
 obtain⟨h1,h2⟩:=Bool.and_eq_true_iff.1 h;exact⟨h1,AD h2⟩
def JC{J:Value->St->OD}{ln:Nat}{li t:Row}{x:Px}{r:Bool×Px}{f:Row->(Bool->Px->OD)->OD}(cz:AV t=true)(hf:En t=false->r=(false,x))(ht:En t=true->(Cf t).n<=1000000->f (Cf t) (kZ J ln li)=WT J ln li r):lV AV Cf En J ln li x t f=WT J ln li r:=by
 refine Aq cz ?_;cases hB:En t
 ·rw[hf hB];exact Aq rfl rfl
 ·exact BC rfl (ht hB (Nat.le_trans (Ap7 t) (JK cz).1))
section
variable{wr li:Row}{w1 wn ln:Nat}{x:Px}
def Abg(hc:QO (w_ wr w1 wn) x=true)(J:Value->St->OD):Nu (Eh AV Cf En AV BL BP) J w1 wn ln wr li x sGive=WT J ln li (BD (Ad sGive) (w_ wr w1 wn) x):=by
 refine(Ao8 AV Cf En AV BL BP J w1 wn ln wr li x).trans ?_;generalize w_ wr w1 wn=t at*
 obtain⟨cz,z1,z2,z3,z4,z5,z6⟩:=Iu hc;refine JC cz (fun h=>by unfold BD;rw[h];rfl) fun hB hN=>?_;rw[show BD (Ad sGive) t x=(true,{x with aa:=Cf t}) by unfold BD;rw[hB];rfl];generalize Cf t=l at*
 rfl
def gU(hc:QO (w_ wr w1 wn) x=true)(J:Value->St->OD):Nu (Eh AV Cf En AV BL BP) J w1 wn ln wr li x sRooms=WT J ln li (BD (Ad sRooms) (w_ wr w1 wn) x):=by
 refine(Ajn AV Cf En AV BL BP J w1 wn ln wr li x).trans ?_;generalize w_ wr w1 wn=t at*
 obtain⟨cz,z1,z2,z3,z4,z5,z6⟩:=Iu hc;refine JC cz (fun h=>by unfold BD;rw[h];rfl) fun hB hN=>?_;rw[show BD (Ad sRooms) t x=(true,{x with lr:=Cf t}) by unfold BD;rw[hB];rfl];generalize Cf t=l at*
 rfl
def Vr(hc:QO (w_ wr w1 wn) x=true)(J:Value->St->OD):Nu (Eh AV Cf En AV BL BP) J w1 wn ln wr li x sBalances=WT J ln li (BD (Ad sBalances) (w_ wr w1 wn) x):=by
 refine(aB AV Cf En AV BL BP J w1 wn ln wr li x).trans ?_;generalize w_ wr w1 wn=t at*
 obtain⟨cz,z1,z2,z3,z4,z5,z6⟩:=Iu hc;refine JC cz (fun h=>by unfold BD;rw[h];rfl) fun hB hN=>?_;rw[show BD (Ad sBalances) t x=(true,{x with ba:=Cf t}) by unfold BD;rw[hB];rfl];generalize Cf t=l at*
 rfl
def aC(hc:QO (w_ wr w1 wn) x=true)(J:Value->St->OD):Nu (Eh AV Cf En AV BL BP) J w1 wn ln wr li x sValues=WT J ln li (BD (Ad sValues) (w_ wr w1 wn) x):=by
 refine(Abv AV Cf En AV BL BP J w1 wn ln wr li x).trans ?_;generalize w_ wr w1 wn=t at*
 obtain⟨cz,z1,z2,z3,z4,z5,z6⟩:=Iu hc;refine JC cz (fun h=>by unfold BD;rw[h];rfl) fun hB hN=>?_;rw[show BD (Ad sValues) t x=(true,bif x.k==2 then{x with gv:=Em x.gv (Ae (Cf t))}else{x with fv:=Em x.fv (Ae (Cf t))}) by unfold BD;rw[hB];rfl];generalize Cf t=l at*
 cases hk:x.k==2
 ·exact BC rfl (Aq (A4 o_) rfl)
 ·exact Aq rfl (Aq (A4 o_) rfl)
def Aa2(hc:QO (w_ wr w1 wn) x=true)(J:Value->St->OD):Nu (Eh AV Cf En AV BL BP) J w1 wn ln wr li x sRent=WT J ln li (BD (Ad sRent) (w_ wr w1 wn) x):=by
 refine(Aom AV Cf En AV BL BP J w1 wn ln wr li x).trans ?_;generalize w_ wr w1 wn=t at*
 obtain⟨cz,z1,z2,z3,z4,z5,z6⟩:=Iu hc;refine JC cz (fun h=>by unfold BD;rw[h];rfl) fun hB hN=>?_;rw[show BD (Ad sRent) t x=(bif (Cf t).n=1 then(true,{x with rr:=(Cf t).I 0 0})else(false,x)) by unfold BD;rw[hB];rfl];generalize Cf t=l at*
 by_cases hk:l.n=1
 ·rw[A4 hk];exact BC (by rw[hk];rfl) (Aq (by simp only[A2,A3];omega) rfl)
 ·rw[AB hk];exact Aq z_ rfl
def Zj(hc:QO (w_ wr w1 wn) x=true)(J:Value->St->OD):Nu (Eh AV Cf En AV BL BP) J w1 wn ln wr li x sPrices=WT J ln li (BD (Ad sPrices) (w_ wr w1 wn) x):=by
 refine(Acd AV Cf En AV BL BP J w1 wn ln wr li x).trans ?_;generalize w_ wr w1 wn=t at*
 obtain⟨cz,z1,z2,z3,z4,z5,z6⟩:=Iu hc;refine JC cz (fun h=>by unfold BD;rw[h];rfl) fun hB hN=>?_;rw[show BD (Ad sPrices) t x=(bif 0<(Cf t).n then(true,{x with ld:=(Cf t).I 0 0,lp:=Cf t,lpo:=1,lpn:=(Cf t).n-1})else(false,x)) by unfold BD;rw[hB];rfl];generalize Cf t=l at*
 by_cases hk:0<l.n
 ·rw[A4 hk];exact BC (AB o_) (Aq (by simp only[A2,A3];omega) (Aq (by simp only[A2,A3];omega) (Aq (by simp only[A2,A3];omega) rfl)))
 ·rw[AB hk];exact Aq (A4 o_) rfl
def Akx(hc:QO (w_ wr w1 wn) x=true)(J:Value->St->OD):Nu (Eh AV Cf En AV BL BP) J w1 wn ln wr li x sPay=WT J ln li (BD (Ad sPay) (w_ wr w1 wn) x):=by
 refine(Arl AV Cf En AV BL BP J w1 wn ln wr li x).trans ?_;generalize w_ wr w1 wn=t at*
 obtain⟨cz,z1,z2,z3,z4,z5,z6⟩:=Iu hc;refine JC cz (fun h=>by unfold BD;rw[h];rfl) fun hB hN=>?_;rw[show BD (Ad sPay) t x=(bif (Cf t).n=3 then(true,{x with pa:=Ny x.pa (Cf t)})else(false,x)) by unfold BD;rw[hB];rfl];generalize Cf t=l at*
 by_cases hk:l.n=3
 ·rw[A4 hk];exact BC (by rw[hk];rfl) (Aq (by simp only[A2,A3];omega) (Aq (by simp only[A2,A3];omega) (Aq (by simp only[A2,A3];omega) (Aq (A4 o_) rfl))))
 ·rw[AB hk];exact Aq z_ rfl
def Zo(hc:QO (w_ wr w1 wn) x=true)(J:Value->St->OD):Nu (Eh AV Cf En AV BL BP) J w1 wn ln wr li x sClaims=WT J ln li (BD (Ad sClaims) (w_ wr w1 wn) x):=by
 refine(yE AV Cf En AV BL BP J w1 wn ln wr li x).trans ?_;generalize w_ wr w1 wn=t at*
 obtain⟨cz,z1,z2,z3,z4,z5,z6⟩:=Iu hc;refine JC cz (fun h=>by unfold BD;rw[h];rfl) fun hB hN=>?_;rw[show BD (Ad sClaims) t x=(bif (Cf t).n=1∧0<=(Cf t).I 0 0∧(Cf t).I 0 0<=31 then(true,bif x.k==1 then{x with pc:=IntKind.u8.wrap ((Cf t).I 0 0)}else{x with cl:=IntKind.u8.wrap ((Cf t).I 0 0)})else(false,x)) by unfold BD;rw[hB];rfl];generalize Cf t=l at*
 by_cases hk:l.n=1
 ·have j0:(decide ((0:Int)<=0)&&decide ((0:Int)<(l.n:Int)))=true:=(by simp only[A2,A3];omega);refine BC (by rw[hk];rfl) (Aq j0 ?_);by_cases h0:0<=l.I 0 0
  ·refine BC (AB (by show¬l.I 0 0<0;omega)) (Aq j0 ?_);by_cases h1:l.I 0 0<=31
   ·rw[A4 (⟨hk,h0,h1⟩:l.n=1∧0<=l.I 0 0∧l.I 0 0<=31)];refine BC (AB (by show¬l.I 0 0>31;omega)) ?_;cases x.k==1
    ·exact BC rfl (Aq j0 rfl)
    ·exact Aq rfl (Aq j0 rfl)
   ·rw[AB (fun h=>h1 h.2.2:¬(l.n=1∧0<=l.I 0 0∧l.I 0 0<=31))];exact Aq (A4 (by show l.I 0 0>31;omega)) rfl
  ·rw[AB (fun h=>h0 h.2.1:¬(l.n=1∧0<=l.I 0 0∧l.I 0 0<=31))];exact Aq (A4 (by show l.I 0 0<0;omega)) rfl
 ·rw[AB (fun h=>hk h.1:¬(l.n=1∧0<=l.I 0 0∧l.I 0 0<=31))];exact Aq z_ rfl
def Ab6(hc:QO (w_ wr w1 wn) x=true)(J:Value->St->OD):Nu (Eh AV Cf En AV BL BP) J w1 wn ln wr li x sCake=WT J ln li (BD (Ad sCake) (w_ wr w1 wn) x):=by
 refine(Aou AV Cf En AV BL BP J w1 wn ln wr li x).trans ?_;generalize w_ wr w1 wn=t at*
 obtain⟨cz,z1,z2,z3,z4,z5,z6⟩:=Iu hc;refine JC cz (fun h=>by unfold BD;rw[h];rfl) fun hB hN=>?_;rw[show BD (Ad sCake) t x=(bif decide (2<=(Cf t).n)&&decide ((Cf t).n%2=0)then(true,{x with ca:=PH x.ca (Cf t)})else(false,x)) by unfold BD;rw[hB];rfl];generalize Cf t=l at*
 rw[show Qd l=((l.n/2+1:Nat):Int)from eQ hN,bne,iD];by_cases h2:2<=l.n
 ·rw[A4 h2,Bool.true_and];refine BC (AB o_) ?_;by_cases h3:l.n%2=0
  ·rw[A4 h3];exact BC rfl (Aq (by simp only[A2,A3];omega) (Aq (by simp only[A2,A3];omega) (Aq (by simp only[A2,A3];omega) (Aq (by simp only[A2,A3];omega) (Aq (by simp only[A2,A3];omega) (Aq (A4 o_) rfl))))))
  ·rw[AB h3];exact Aq rfl rfl
 ·rw[AB h2,Bool.false_and];exact Aq (A4 o_) rfl
def oD(hc:QO (w_ wr w1 wn) x=true)(J:Value->St->OD):Nu (Eh AV Cf En AV BL BP) J w1 wn ln wr li x sWorth=WT J ln li (BD (Ad sWorth) (w_ wr w1 wn) x):=by
 refine(Aiw AV Cf En AV BL BP J w1 wn ln wr li x).trans ?_;generalize w_ wr w1 wn=t at*
 obtain⟨cz,z1,z2,z3,z4,z5,z6⟩:=Iu hc;exact Aq cz (Aq (A4 o_) rfl)
def oI(hc:QO (w_ wr w1 wn) x=true)(J:Value->St->OD):Nu (aN AV Cf En AV BL BP) J w1 wn ln wr li x sPiece=WT J ln li (BD (Ad sPiece) (w_ wr w1 wn) x):=by
 refine(Amk AV Cf En AV BL BP J w1 wn ln wr li x).trans ?_;generalize w_ wr w1 wn=t at*
 obtain⟨cz,z1,z2,z3,z4,z5,z6⟩:=Iu hc;have hq:=(Yd cz).1;refine Aq cz (Aq (c_lsz_iff.2 ⟨rfl,rfl,rfl,hq,rfl⟩) (Aq (A4 o_) ?_));rw[Anc,show BD (Ad sPiece) t x=(BP t&&evB (BL t).n,{x with pi:=Em x.pi (Ae (FP (BL t)))})from rfl];cases BP t
 ·exact BC rfl rfl
 ·exact Aq rfl rfl
def Aan{word:Y_}(hPiece:(Ad word==Ad sPiece)=false)(hWorth:(Ad word==Ad sWorth)=false)(hCake:(Ad word==Ad sCake)=false)(hValues:(Ad word==Ad sValues)=false)(hGive:(Ad word==Ad sGive)=false)(hRent:(Ad word==Ad sRent)=false)(hRooms:(Ad word==Ad sRooms)=false)(hPrices:(Ad word==Ad sPrices)=false)(hBalances:(Ad word==Ad sBalances)=false)(hPay:(Ad word==Ad sPay)=false)(hClaims:(Ad word==Ad sClaims)=false)(hc:QO (w_ wr w1 wn) x=true)(J:Value->St->OD):Nu (Acu AV Cf En AV BL BP) J w1 wn ln wr li x word=WT J ln li (BD (Ad word) (w_ wr w1 wn) x):=by
 refine(Aop AV Cf En AV BL BP J w1 wn ln wr li x word).trans ?_;generalize w_ wr w1 wn=t at*
 obtain⟨cz,z1,z2,z3,z4,z5,z6⟩:=Iu hc;have hX:BD (Ad word) t x=(false,x):=by
  unfold BD;rw[hPiece,hWorth,hCake,hValues,hGive,hRent,hRooms,hPrices,hBalances,hPay,hClaims];cases En t<;>rfl
 rw[hX];refine BC (Iw (b:=sPiece) hPiece) (BC (Iw (b:=sWorth) hWorth) (JC cz (fun _=>rfl) fun _ _=>?_));refine BC (Iw (b:=sCake) hCake) ?_;refine BC (Iw (b:=sValues) hValues) ?_;refine BC (Iw (b:=sGive) hGive) ?_;refine BC (Iw (b:=sRent) hRent) ?_;refine BC (Iw (b:=sRooms) hRooms) ?_;refine BC (Iw (b:=sPrices) hPrices) ?_;refine BC (Iw (b:=sBalances) hBalances) ?_;refine BC (Iw (b:=sPay) hPay) ?_;refine BC (Iw (b:=sClaims) hClaims) ?_;rfl
end
def p_zd:Dl:={τ:=[],saved:=[],mem:=[.box [.v (.c (.int .u8 0)),.v (.c (.slice none 0 0)),.v (.c (.slice none 0 0)),.v (.c (.int .u8 0)),.v (.c (.slice none 0 0)),.v (.c (.slice none 0 0)),.v (.c (.slice none 0 0)),.v (.c (.slice none 0 0)),.v (.c (.int .i64 0)),.v (.c (.slice none 0 0)),.v (.c (.slice none 0 0)),.v (.c (.int .i64 0)),.v (.c (.slice none 0 0)),.v (.c (.slice none 0 0)),.v (.c (.int .u8 0))],.row [.str] true,.box [.v (.int .u8),.v (.sl 3),.v (.sl 4),.v (.int .u8),.v (.sl 5),.v (.sl 6),.v (.sl 7),.v (.sl 8),.v (.int .i64),.v (.sl 9),.v (.slw 10),.v (.int .i64),.v (.sl 11),.v (.sl 12),.v (.int .u8)],.deep DV,.deep Fh,.deep Es,.deep Cc,.row Ar true,.deep Cc,.row Ar true,.row Ar true,.row Ar true,.row Ht true,.row [.str] true]}
def pzD:List It->Option (Bool×Row×Row×Px)
 |[.r li,.i k,.n can,.n pin,.i pc,.n won,.n gvn,.n aan,.n fvn,.i rr,.n lrn,.n lpo,.n lpn,.i ld,.n ban,.n pan,.i cl,.r ca,.r pi,.r wo,.r gv,.r aa,.r fv,.r lr,.r lp,.r ba,.r pa,.r wr]=>some (decide (can=ca.n∧pin=pi.n∧won=wo.n∧gvn=gv.n∧aan=aa.n∧fvn=fv.n∧lrn=lr.n∧ban=ba.n∧pan=pa.n),li,wr,⟨k,ca,pi,pc,wo,gv,aa,fv,rr,lr,lp,lpo,lpn,ld,ba,pa,cl⟩)
 |_=>none
def Agj(m:M_):Option (Bool×Row×Row×Px):=match m.drop 14 with
 |[]=>match Ls p_zd {τ:=[],saved:=[],mem:=m.take 14}with
  |some its=>pzD its
  |none=>none
 |_=>none
def Aad{m:M_}{li wr:Row}{x:Px}(h:Agj m=some (true,li,wr,x)):m=zMx li x [some (.row [.str] true wr)]:=by
 unfold Agj at h;split at h
 ·rename_i hd;split at h
  ·rename_i its hm;have e:=congrArg St.mem (Gv hm);unfold pzD at h;split at h
   ·simp only[A5,A6,A3]at h;obtain⟨⟨rfl,rfl,rfl,rfl,rfl,rfl,rfl,rfl,rfl⟩,rfl,rfl,rfl⟩:=h;have e2:=List.take_append_drop 14 m;rw[hd]at e2;rw[<-e2];exact congrArg (· ++[]) e.symm
   ·cases h
  ·cases h
 ·cases h
def Ahp(pc:Row->Px->Bool)(px:List UInt8->Row->Px->Bool×Px):List Value->St->Option (Bool×Value×St)
 |[.pointer (some ⟨2,0,some 0⟩),.string w,.slice (some ⟨13,o,some 0⟩) n 0],⟨.string s::_::.pointer (some ⟨0,0,some 0⟩)::_::.slice (some ⟨1,0,some 0⟩) ln 0::.pointer (some ⟨2,0,some 0⟩)::.int .i64 j::r,[[]],mem⟩=>match Agj mem with
  |some (b,li,wr,x)=>some (b&&pc (w_ wr o n) x,.bool (px (Ad w) (w_ wr o n) x).1,⟨.string s::.chan none::bx0::.chan none::lnS ln::Yu::.int .i64 j::r.map (fun _=>.chan none),[[]],zMx li (px (Ad w) (w_ wr o n) x).2 []⟩)
  |none=>none
 |_,_=>none
open Classical in
def iZ{ρ:Ev.Map}{C:Cx}{w0:World}(hC:CxAt C w0){d:Nat}{g:FuncId}{args:List Value}{mem mem1:M_}{v k1:Value}(hp:D8 v=true)
  (hev:∀J:Value->St->OD,inl C d g args {τ:=[bx0,k1,Yu],saved:=[],mem:=mem} (fun v' σ'=>J v' (Nh [0,1,2] σ'))=J v {τ:=[bx0,k1,Yu],saved:=[],mem:=mem1})
  {s u1 u3 j:Value} {r:List Value} (hs:D8 s=true) (hj:D8 j=true) {a:Act} {cs:List (Array Value)} {w:World} {cargs:List Value} (hR:Rel w0 {τ:=s::u1::bx0::u3::k1::Yu::j::r,saved:=[[]],mem:=mem} a cs w ρ) (hv:Vs ρ mem.length args cargs):
  Calls C.P g ⟨cargs⟩ w fun e w'=>∃cv ρ1,e=.returned cv∧Rel w0 {τ:=s::.chan none::bx0::.chan none::k1::Yu::j::r.map (fun _=>.chan none),saved:=[[]],mem:=mem1} a cs w' ρ1∧V ρ1 mem1.length v cv:=by
 have z0:V ρ mem.length bx0 (a.tmps.getD 2 undef):=hR.tmps.getD 2;have z1:V ρ mem.length k1 (a.tmps.getD 4 undef):=hR.tmps.getD 4;have z2:V ρ mem.length Yu (a.tmps.getD 5 undef):=hR.tmps.getD 5;have hRe:Rel w0 {τ:=[bx0,k1,Yu],saved:=[],mem:=mem} {a with tmps:= #[a.tmps.getD 2 undef,a.tmps.getD 4 undef,a.tmps.getD 5 undef]} [] w ρ:=
  ⟨hR.defers,⟨rfl,fun t x y hx hy=>by
   match t,hx,hy with
   |0,hx,hy=>simp at hx hy;subst hx;rw[<-hy,<-Array.getD_eq_getD_getElem?];exact z0
   |1,hx,hy=>simp at hx hy;subst hx;rw[<-hy,<-Array.getD_eq_getD_getElem?];exact z1
   |2,hx,hy=>simp at hx hy;subst hx;rw[<-hy,<-Array.getD_eq_getD_getElem?];exact z2
   |t+3,hx,hy=>simp at hx⟩,trivial,hR.below,hR.mem⟩
 have hk:=hev fun v' σ'=>if v'=v∧σ'={τ:=[bx0,k1,Yu],saved:=[],mem:=mem1}then some []else none;rw[AM ⟨rfl,rfl⟩]at hk;refine(Tc hC d g args _ _ _ hk _ _ w ρ cargs hRe hv).mono fun e w' ⟨cv,v',σ',ρ1,he,hR1,hV1,hk1⟩=>?_;split at hk1
 ·rename_i hh;obtain⟨rfl,hn⟩:=hh;obtain⟨ρ2,hR2⟩:=IQ hR1 [0,1,2];rw[hn]at hR2;have t0:V ρ2 mem1.length bx0 (a.tmps.getD 2 undef):=hR2.tmps.2 0 _ _ rfl rfl;have t1:V ρ2 mem1.length k1 (a.tmps.getD 4 undef):=hR2.tmps.2 1 _ _ rfl rfl;have t2:V ρ2 mem1.length Yu (a.tmps.getD 5 undef):=hR2.tmps.2 2 _ _ rfl rfl;have ey:∀{t:Nat}{y:Value},a.tmps[t]? =some y->a.tmps.getD t undef=y:=fun{t y} h=>by rw[Array.getD_eq_getD_getElem?,h];rfl
  have hsv:TmpsR ρ2 mem1.length [[]] cs:=by
   have h1:TmpsR ρ mem.length [[]] cs:=hR.saved
   match cs,h1 with
   |[c],h1=>exact⟨⟨h1.1.1,fun t x y hx _=>by simp at hx⟩,trivial⟩
   |[],h1=>exact h1.elim
   |_::_::_,h1=>exact h1.2.elim
  refine⟨cv,ρ2,he,⟨hR.defers,⟨?_,fun t x y hx hy=>?_⟩,hsv,hR2.below,hR2.mem⟩,?_⟩
  ·have h1:=hR.tmps.1;simp only[List.length_cons,List.length_map]at h1⊢;exact h1
  ·match t,hx,hy with
   |0,hx,hy=>
    cases hx;rw[(hR.tmps.2 0 _ y rfl hy).plain1 hs];exact V.reflP hs
   |1,hx,hy=>cases hx;exact .unk
   |2,hx,hy=>cases hx;rw[<-ey hy];exact t0
   |3,hx,hy=>cases hx;exact .unk
   |4,hx,hy=>cases hx;rw[<-ey hy];exact t1
   |5,hx,hy=>cases hx;rw[<-ey hy];exact t2
   |6,hx,hy=>
    cases hx;rw[(hR.tmps.2 6 _ y rfl hy).plain1 hj];exact V.reflP hj
   |t+7,hx,hy=>
    have:(r.map fun _=>(Value.chan none))[t]? =some x:=hx;rw[List.getElem?_map]at this;cases hr:r[t]? with
    |none=>rw[hr]at this;cases this
    |some q=>rw[hr]at this;cases this;exact .unk
  ·rw[hV1.plain1 hp];exact V.reflP hp
 ·cases hk1
def Ak9:∀wb,Wd wb->IAt Tryz.prog wb 30 (Ahp QO BD):=fun wb hW w0 hb args σ v σ1 hF a cs w ρ cargs hR hv=>by
 have hW0:=hW.later hb;unfold Ahp at hF;split at hF
 ·rename_i wd o n s u1 u3 ln j r mem;split at hF
  ·rename_i b li wr x hp;simp only[A5,A6,A2]at hF;obtain⟨⟨rfl,hc⟩,rfl,rfl⟩:=hF;have hm:=Aad hp;subst hm;have go:∀(C:Cx),C.P=Tryz.prog->CxAt C w0->(∀J:Value->St->OD,Nu C J o n ln wr li x wd=WT J ln li (BD (Ad wd) (w_ wr o n) x))->
     Calls Tryz.prog 30 ⟨cargs⟩ w fun e w'=>∃cv ρ1,e=.returned cv∧Rel w0 {τ:=.string s::.chan none::bx0::.chan none::lnS ln::Yu::.int .i64 j::r.map (fun _=>.chan none),saved:=[[]],mem:=zMx li (BD (Ad wd) (w_ wr o n) x).2 []} a cs w' ρ1∧V ρ1 (zMx li (BD (Ad wd) (w_ wr o n) x).2 []).length (.bool (BD (Ad wd) (w_ wr o n) x).1) cv:=fun C hP hC hev=>by
    have:=iZ hC (mem:=zMx li x [some (.row [.str] true wr)]) (mem1:=zMx li (BD (Ad wd) (w_ wr o n) x).2 []) (v:=.bool (BD (Ad wd) (w_ wr o n) x).1) (k1:=lnS ln) rfl hev (s:=.string s) (j:=.int .i64 j) rfl rfl hR hv;rw[hP]at this;exact this
   cases hPiece:Ad wd==Ad sPiece
   case true=>
    have e:wd=sPiece:=by_inj (by simpa using hPiece);subst e;exact go (aN AV Cf En AV BL BP) rfl (Ab0 w0 hW0) (oI hc)
   cases hWorth:Ad wd==Ad sWorth
   case true=>
    have e:wd=sWorth:=by_inj (by simpa using hWorth);subst e;exact go (Eh AV Cf En AV BL BP) rfl (EO w0 hW0) (oD hc)
   cases hCake:Ad wd==Ad sCake
   case true=>
    have e:wd=sCake:=by_inj (by simpa using hCake);subst e;exact go (Eh AV Cf En AV BL BP) rfl (EO w0 hW0) (Ab6 hc)
   cases hValues:Ad wd==Ad sValues
   case true=>
    have e:wd=sValues:=by_inj (by simpa using hValues);subst e;exact go (Eh AV Cf En AV BL BP) rfl (EO w0 hW0) (aC hc)
   cases hGive:Ad wd==Ad sGive
   case true=>
    have e:wd=sGive:=by_inj (by simpa using hGive);subst e;exact go (Eh AV Cf En AV BL BP) rfl (EO w0 hW0) (Abg hc)
   cases hRent:Ad wd==Ad sRent
   case true=>
    have e:wd=sRent:=by_inj (by simpa using hRent);subst e;exact go (Eh AV Cf En AV BL BP) rfl (EO w0 hW0) (Aa2 hc)
   cases hRooms:Ad wd==Ad sRooms
   case true=>
    have e:wd=sRooms:=by_inj (by simpa using hRooms);subst e;exact go (Eh AV Cf En AV BL BP) rfl (EO w0 hW0) (gU hc)
   cases hPrices:Ad wd==Ad sPrices
   case true=>
    have e:wd=sPrices:=by_inj (by simpa using hPrices);subst e;exact go (Eh AV Cf En AV BL BP) rfl (EO w0 hW0) (Zj hc)
   cases hBalances:Ad wd==Ad sBalances
   case true=>
    have e:wd=sBalances:=by_inj (by simpa using hBalances);subst e;exact go (Eh AV Cf En AV BL BP) rfl (EO w0 hW0) (Vr hc)
   cases hPay:Ad wd==Ad sPay
   case true=>
    have e:wd=sPay:=by_inj (by simpa using hPay);subst e;exact go (Eh AV Cf En AV BL BP) rfl (EO w0 hW0) (Akx hc)
   cases hClaims:Ad wd==Ad sClaims
   case true=>
    have e:wd=sClaims:=by_inj (by simpa using hClaims);subst e;exact go (Eh AV Cf En AV BL BP) rfl (EO w0 hW0) (Zo hc)
   exact go (Acu AV Cf En AV BL BP) rfl (Aaz w0 hW0) (Aan hPiece hWorth hCake hValues hGive hRent hRooms hPrices hBalances hPay hClaims hc)
  ·cases hF
 ·cases hF
def Hg{x:Nat->Int}:∀n,(∀j,j<n->iR (x j)=true)->(BI x n).length<=n*22
 |0,_=>Nat.zero_le _
 |n+1,h=>by
  have h1:=Hg n (fun j hj=>h j o_);have h2:=C9 (h n o_);show(BI x n++(32::itoa (x n))).length<=_;rw[AG,List.length_cons];omega
def Jb{x:Nat->Int×Int}:∀n,(∀j,j<n->iQ (x j)=true)->(FO x n).length<=n*44
 |0,_=>Nat.zero_le _
 |n+1,h=>by
  have h1:=Jb n (fun j hj=>h j o_);have h2:=NT (h n o_);show(FO x n++(32::N8 (x n))).length<=_;rw[AG,List.length_cons];omega
def Eu{x y:Nat->Int}:∀n,(∀j,j<n->x j=y j)->BI x n=BI y n
 |0,_=>rfl
 |n+1,h=>by
  show BI x n++_=BI y n++_;rw[Eu n (fun j hj=>h j o_),h n o_]
def Ua{x y:Nat->Int×Int}:∀n,(∀j,j<n->x j=y j)->FO x n=FO y n
 |0,_=>rfl
 |n+1,h=>by
  show FO x n++_=FO y n++_;rw[Ua n (fun j hj=>h j o_),h n o_]
def NQ(x:Nat->Int)(a:Nat):∀b,BI x (a+b)=BI x a++BI (fun j=>x (a+j)) b
 |0=>(List.append_nil _).symm
 |b+1=>by
  show BI x (a+b)++_=BI x a++(BI (fun j=>x (a+j)) b++_);rw[NQ x a b,List.append_assoc];rfl
def Le{ln L:Nat->List UInt8}(h0:L 0=[])(hs:∀k,L (k+1)=L k++ln k)(s:Y_):∀n,BK (fun j a=>a++txt (ln j)) n 0 s=s++txt (L n)
 |0=>by
  rw[h0];show s=s++txt [];rw[<-Rt.txt_by s,Rt.txt_app,List.append_nil]
 |n+1=>by
  rw[Hr,Le h0 hs s n,AE,hs n,<-Rt.txt_app,ByteArray.append_assoc]
def Yv(r:Row):Prop:=r.n<=1000000∧∀i,i<r.n->dR (r.I i 0)=true
instance(r:Row):Decidable (Yv r):=by unfold Yv;infer_instance
def aZ(r:Row)(j:Nat):List UInt8:=Ad sValues++BI (fun k=>(r.R j 0).I k 0) (r.R j 0).n++[10]
def SE{r:Row}{j:Nat}(h:Yv (r.R j 0)):(txt (aZ r j)).size<=100000000:=by
 have:=Hg (x:=fun k=>(r.R j 0).I k 0) (r.R j 0).n (fun k hk=>IY (h.2 k hk));have h1:=h.1;have h2:(Ad sValues).length=6:=rfl;rw[Rt.txt_size];unfold aZ;rw[AG,AG,List.length_singleton];omega
def sLf:Y_:=⟨⟨[10]⟩⟩
def KG(a s:Y_)(l:List UInt8):((a++s)++txt l)++sLf=a++txt (Ad s++l++[10]):=by
 rw[<-Rt.txt_app,<-Rt.txt_app,Rt.txt_by,show sLf=txt [10]from rfl,ByteArray.append_assoc,ByteArray.append_assoc,ByteArray.append_assoc]
def gK:Dl:={τ:=[.v (.sl 0)]++pu 2++[.v (.str),.v (.int .i64)]++pu 16,saved:=[[]],mem:=[.row Cc false]}
structure A_va3 where
 n:Nat
 s:Y_
 j:Int
 r:Row
def oM(its:List It):Option A_va3:=match its with|[.n n,.s s,.i j,.r r]=>some ⟨n,s,j,r⟩|_=>none
def bT(x:A_va3):Bool:=x.j=0∧x.n<=1000000∧x.s.size=0∧∀i,i<x.n->Yv (x.r.R i 0)
def c_va3_iff{x:A_va3}:=@Bl _ bT _ _ rfl x
def va3:FoldL A_va3 (Y_):=⟨68,3,[0,3,4],[2,3],gK,oM,fun x j a=>[.n x.n,.s a,.i (j:Int),.r x.r],fun x=>x.n,bT,fun x=>x.s,fun x j a=>a++txt (aZ x.r j),fun x a K=>K (.exit 0) ⟨us 3++[.string ((a))]++us 17,[[]],[]⟩⟩
noncomputable def zY:Cx:=AP Tryz.prog fns [(66,Fli)] [va3.C]
def Aer(R:St->OD)(K:X->St->OD)(q n:Nat)(s:Y_)(j:Int)(r:Row):Ak zY 68 3 q (bst gK [.n n,.s s,.i j,.r r]) (BF [0,3,4] (some [2,3]) R K)=br (j<(n:Int)) (br ((↑(s.size+{data:= #[118,97,108,117,101,115]:Y_}.size):Int)>IntKind.i64.max) none (br (0<=j&&j<(n:Int)) (br (decide ((w_ (r.R (0+j.toNat) 0) 0 (r.R (0+j.toNat) 0).n).n<=1000000∧∀(i:Nat),i<(w_ (r.R (0+j.toNat) 0) 0 (r.R (0+j.toNat) 0).n).n->dR ((w_ (r.R (0+j.toNat) 0) 0 (r.R (0+j.toNat) 0).n).I i 0)=true)) (br (decide ((↑((s++{data:= #[118,97,108,117,101,115]:Y_}).size+(txt (BI (fun j_1=>(w_ (r.R (0+j.toNat) 0) 0 (r.R (0+j.toNat) 0).n).I j_1 0) (w_ (r.R (0+j.toNat) 0) 0 (r.R (0+j.toNat) 0).n).n)).size):Int)>IntKind.i64.max)) none (br (decide ((↑((s++{data:= #[118,97,108,117,101,115]:Y_}++txt (BI (fun j_1=>(w_ (r.R (0+j.toNat) 0) 0 (r.R (0+j.toNat) 0).n).I j_1 0) (w_ (r.R (0+j.toNat) 0) 0 (r.R (0+j.toNat) 0).n).n)).size+{data:= #[10]:Y_}.size):Int)>IntKind.i64.max)) none (R (bst gK [.n n,.s (s++{data:={toList:=[118,97,108,117,101,115]:Array UInt8}:Y_}++txt (BI (fun j_1=>(w_ (r.R (0+j.toNat) 0) 0 (r.R (0+j.toNat) 0).n).I j_1 0) (w_ (r.R (0+j.toNat) 0) 0 (r.R (0+j.toNat) 0).n).n)++{data:={toList:=[10]:Array UInt8}:Y_}),.i (IntKind.i64.wrap (j+1)),.r r])))) none) none)) (K (.exit 0) ⟨us 3++[.string s]++us 17,[[]],[]⟩):=k_
def Aqm(r:Row):BH zY 6 68 [.slice Cc r]=br (bT (⟨r.n,{data:={toList:=[]:Array UInt8}:Y_},0,r⟩:A_va3)) (some [.v (.string (BK (fun j a=>a++txt (aZ r j)) r.n 0 {data:={toList:=[]:Array UInt8}:Y_}))]) (none):=k_
def Ami:Ah zY va3.C:=va3.ok (fun x j a=>a.size<=100000000*j) k_
 (fun its x h hc=>by
  replace h:oM its=some x:=h;unfold oM at h;split at h
  ·cases h;have h:=c_va3_iff.1 hc;dsimp only at h;obtain⟨rfl,_⟩:=h;rfl
  ·cases h)
 (fun x hc=>by have:=c_va3_iff.1 hc;show x.n<2^64;omega)
 (fun x hc=>by
  have:=(c_va3_iff.1 hc).2.2.1;show x.s.size<=100000000*0;omega)
 (fun x j a hc hi hI=>by
  replace hI:a.size<=100000000*j:=hI;have k:=SE ((c_va3_iff.1 hc).2.2.2 j hi);show(a++txt (aZ x.r j)).size<=100000000*(j+1);rw[GI];omega)
 (fun q ⟨n,s0,j0,r⟩ j a hc hi hI R K=>by
  obtain⟨h1,h2,h3,h4⟩:=c_va3_iff.1 hc;dsimp only at*
  replace hi:j<n:=hi;refine(Aer R K q n ((a)) ((j:Int)) r).trans ?_;replace hI:a.size<=100000000*j:=hI;have k:=SE (h4 j hi);have k2:(txt (aZ r j)).size=6+(txt (BI (fun k=>(r.R j 0).I k 0) (r.R j 0).n)).size+1:=by rw[Rt.txt_size,Rt.txt_size];unfold aZ;rw[AG,AG];rfl
  have k4:(a++sValues).size=a.size+6:=by rw[GI];rfl
  have k5:(a++sValues++txt (BI (fun k=>(r.R j 0).I k 0) (r.R j 0).n)).size=a.size+6+(txt (BI (fun k=>(r.R j 0).I k 0) (r.R j 0).n)).size:=by rw[GI,k4]
  rw[A9,AE j,gd j n hi,DX j n hi,Eg o_];show _=R (bst va3.p (va3.S ⟨n,s0,j0,r⟩ (j+1) (a++txt (aZ r j))));unfold aZ;rw[<-KG];refine Aq rfl (BC (UC (by show a.size+6<=_;omega)) (Aq rfl (Aq (A4 (h4 j hi)) (BC (UC (by show(a++sValues).size+(txt (BI (fun k=>(r.R j 0).I k 0) (r.R j 0).n)).size<=_;omega)) (BC (UC (by show(a++sValues++txt (BI (fun k=>(r.R j 0).I k 0) (r.R j 0).n)).size+1<=_;omega)) ?_)))));rfl)
 (fun q ⟨n,s0,j0,r⟩ a hc hI R K=>by
  obtain⟨h1,h2,h3,h4⟩:=c_va3_iff.1 hc;dsimp only at*
  refine(Aer R K q n ((a)) ((n:Int)) r).trans ?_;rw[EU n];rfl)
def Aai:Be zY:=Aj enter mixed (Aw den_li AX) (Aw Ami AX)
def xX(r:Row):Prop:=r.n<=1000000∧∀i,i<r.n->Yv (r.R i 0)
instance(r:Row):Decidable (xX r):=by unfold xX;infer_instance
def vaL(r:Row):List UInt8:=EI sValues (fun e k=>(r.R e 0).I k 0) (fun e=>(r.R e 0).n) r.n
def Agy:FD
 |[.slice [.slice [.int .i64]] r]=>some (xX r,[.v (.string (txt (vaL r)))])
 |_=>none
def zU(s:Y_):txt []++s=s:=by
 rw[<-Rt.txt_by s,Rt.txt_app,List.nil_append]
def den_vas:Den Tryz.prog 68 Agy:=Af Aai fun ds rs h=>by
 unfold Agy at h;split at h
 ·rename_i r;simp only[A5,A6]at h;obtain⟨h0,rfl⟩:=h;have h0:=AD h0;refine(Aqm r).trans ?_;rw[c_va3_iff.2 ⟨rfl,h0.1,rfl,h0.2⟩,Aa];have:=Le (ln:=aZ r) (L:=EI sValues (fun e k=>(r.R e 0).I k 0) (fun e=>(r.R e 0).n)) rfl (fun k=>rfl) (txt []) r.n;rw[zU]at this;unfold vaL;rw[<-this];rfl
 ·cases h
def sCk:Y_:=⟨⟨[99,97,107,101,32]⟩⟩
def iY:sCk.size=5:=rfl
def sH(r:Row)(e:Nat):Prop:=dR (r.I e 0)=true∧Yv (r.R e 1)∧Yv (r.R e 2)
instance(r:Row)(e:Nat):Decidable (sH r e):=by unfold sH;infer_instance
def fZ(m:Nat)(r:Row):Prop:=r.n<=1000000∧∀i,i<r.n->∀c,c<m->Rt.iR (r.I i c)=true
instance(m:Nat)(r:Row):Decidable (fZ m r):=by unfold fZ;infer_instance
def PyC(r:Row)(e:Nat):Prop:=dR (r.I e 0)=true∧dR (r.I e 1)=true∧dR (r.I e 2)=true
instance(r:Row)(e:Nat):Decidable (PyC r e):=by unfold PyC;infer_instance
def Tt(r:Row)(j:Nat):List UInt8:=Ad sCake++BI (J4 (r.I j 0) (r.R j 1).n (fun k=>(r.R j 1).I k 0) (fun k=>(r.R j 2).I k 0)) (1+(r.R j 1).n+(r.R j 2).n)++[10]
def Ut(t:Row)(i:Nat):List UInt8:=FO (fun c=>if c=0 then(t.I i 0,t.I i 1)else(t.I i 2,t.I i 3)) 2
def UZ(t:Row):Nat->List UInt8
 |0=>[]
 |n+1=>UZ t n++Ut t n
def aP(r:Row)(j:Nat):List UInt8:=Ad sPiece++UZ (r.R j 0) (r.R j 0).n++[10]
def woL(r:Row)(j:Nat):List UInt8:=Ad sWorth++FO (fun k=>((r.R j 0).I k 0,(r.R j 0).I k 1)) (r.R j 0).n++[10]
def paL(r:Row)(j:Nat):List UInt8:=Ad sPay++BI (fun c=>r.I j c) 3++[10]
def Afv(cl:Int){un:Nat}(U Dv:Nat->Int){j:Nat}(h:j<un):J4 cl un U Dv (1+j)=U j:=by
 unfold J4;rw[AL o_,AM o_,show 1+j-1=j by omega]
def Agu(cl:Int)(un:Nat)(U Dv:Nat->Int)(j:Nat):J4 cl un U Dv (1+un+j)=Dv j:=by
 unfold J4;rw[AL o_,AL o_,show 1+un+j-1-un=j by omega]
def Tf(cl:Int)(un dn:Nat)(U Dv:Nat->Int):BI (J4 cl un U Dv) (1+un+dn)=(32::itoa cl)++BI U un++BI Dv dn:=by
 rw[NQ,NQ,Eu un fun j hj=>Afv cl U Dv hj,Eu dn fun j _=>Agu cl un U Dv j];rfl
def Adi(r:Row)(j:Nat):Tt r j=Ad sCk++itoa (r.I j 0)++BI (fun k=>(r.R j 1).I k 0) (r.R j 1).n++BI (fun k=>(r.R j 2).I k 0) (r.R j 2).n++[10]:=by
 unfold Tt;rw[Tf,show Ad sCk=Ad sCake++[32]from rfl];simp only[List.append_assoc,List.cons_append,List.nil_append]
def Al5(a:Y_)(r:Row)(j:Nat):a++sCk++Sc.ddP (r.I j 0)++txt (BI (fun k=>(r.R j 1).I k 0) (r.R j 1).n)++txt (BI (fun k=>(r.R j 2).I k 0) (r.R j 2).n)++sLf=a++txt (Tt r j):=by
 rw[Adi];unfold Sc.ddP;rw[<-Rt.txt_app,<-Rt.txt_app,<-Rt.txt_app,<-Rt.txt_app,Rt.txt_by,show sLf=txt [10]from rfl];simp only[ByteArray.append_assoc]
def RF{r:Row}{j:Nat}(h:sH r j):(txt (Tt r j)).size<=100000000:=by
 obtain⟨c1,c2,c3⟩:=h;have k1:=Hg (x:=fun k=>(r.R j 1).I k 0) (r.R j 1).n (fun k hk=>IY (c2.2 k hk));have k2:=Hg (x:=fun k=>(r.R j 2).I k 0) (r.R j 2).n (fun k hk=>IY (c3.2 k hk));have k3:=C9 (IY c1);have n1:=c2.1;have n2:=c3.1;have k4:(Ad sCk).length=5:=rfl;rw[Rt.txt_size,Adi];simp only[AG,List.length_singleton];omega
def UI{t:Row}{i:Nat}(h:∀c,c<4->Rt.iR (t.I i c)=true):(Ut t i).length<=88:=Jb 2 fun c hc=>by
 unfold iQ;by_cases h0:c=0
 ·rw[AM h0];show(Rt.iR (t.I i 0)&&Rt.iR (t.I i 1))=true;rw[h 0 d_,h 1 d_];rfl
 ·rw[AL h0];show(Rt.iR (t.I i 2)&&Rt.iR (t.I i 3))=true;rw[h 2 d_,h 3 d_];rfl
def OC{t:Row}:∀n,(∀i,i<n->∀c,c<4->Rt.iR (t.I i c)=true)->(UZ t n).length<=n*88
 |0,_=>Nat.zero_le _
 |n+1,h=>by
  have h1:=OC n fun i hi=>h i o_;have h2:=UI (h n o_);show(UZ t n++Ut t n).length<=_;rw[AG];omega
def RY{r:Row}{j:Nat}(h:fZ 4 (r.R j 0)):(txt (aP r j)).size<=1000000000:=by
 have k1:=OC (r.R j 0).n h.2;have n1:=h.1;have k4:(Ad sPiece).length=5:=rfl;rw[Rt.txt_size];unfold aP;simp only[AG,List.length_singleton];omega
def Y8{r:Row}{j:Nat}(h:fZ 2 (r.R j 0)):(txt (woL r j)).size<=100000000:=by
 have k1:=Jb (x:=fun k=>((r.R j 0).I k 0,(r.R j 0).I k 1)) (r.R j 0).n (fun k hk=>by
  show(Rt.iR _&&Rt.iR _)=true;rw[h.2 k hk 0 d_,h.2 k hk 1 d_];rfl)
 have n1:=h.1;have k4:(Ad sWorth).length=5:=rfl;rw[Rt.txt_size];unfold woL;simp only[AG,List.length_singleton];omega
def Anu{r:Row}{j:Nat}(h:PyC r j):∀c,c<3->iR (r.I j c)=true:=fun c hc=>by
 match c,hc with
 |0,_=>exact IY h.1
 |1,_=>exact IY h.2.1
 |2,_=>exact IY h.2.2
def XX{r:Row}{j:Nat}(h:PyC r j):(txt (paL r j)).size<=1000:=by
 have k1:=Hg (x:=fun c=>r.I j c) 3 (Anu h);have k4:(Ad sPay).length=3:=rfl;rw[Rt.txt_size];unfold paL;simp only[AG,List.length_singleton];omega
def Qp(f:Nat->List UInt8):Nat->List UInt8
 |0=>[]
 |n+1=>Qp f n++f n
def Gh{f:Nat->List UInt8}{m:Nat}:∀n,(∀e,e<n->(txt (f e)).size<=m)->(Qp f n).length<=n*m
 |0,_=>Nat.zero_le _
 |n+1,h=>by
  have h1:=Gh n fun e he=>h e o_;have h2:=h n o_;rw[Rt.txt_size]at h2;show(Qp f n++f n).length<=_;rw[AG,Nat.add_mul,Nat.one_mul];omega
def W9(r:Row):List UInt8:=BI (fun j=>r.I j 0) r.n
def EE{r:Row}(h:Yv r):(W9 r).length<=22000000:=by
 have h1:=Hg (x:=fun j=>r.I j 0) r.n fun j hj=>IY (h.2 j hj);have h2:=h.1;show(BI (fun j=>r.I j 0) r.n).length<=_;omega
def DZ(a b:Y_)(k:Y_->OD):OD:=br (decide (((a.size+b.size:Nat):Int)>IntKind.i64.max)) none (k (a++b))
def Ba{a b:Y_}{k:Y_->OD}(h:a.size+b.size<=9223372036854775807):DZ a b k=k (a++b):=BC (UC h) rfl
def nmT(r:Row)(t:OD):OD:=br (decide (r.n<=1000000∧∀i,i<r.n->dR (r.I i 0)=true)) t none
def JU{r:Row}{t:OD}(h:Yv r):nmT r t=t:=Aq (A4 h) rfl
def stR(s:Y_):OD:=some [.v (.string s)]
def fo(f:Nat->List UInt8)(n:Nat)(s:Y_):Y_:=BK (fun j a=>a++txt (f j)) n 0 s
def Qz(f:Nat->List UInt8)(n:Nat)(s:Y_):fo f n s=s++txt (Qp f n):=Le (ln:=f) (L:=Qp f) rfl (fun _=>rfl) s n
def wP:Dl:={τ:=[],saved:=[],mem:=[.box [.v (.int .u8),.v (.sl 1),.v (.sl 2),.v (.int .u8),.v (.sl 3),.v (.sl 4),.v (.sl 5),.v (.sl 6),.v (.int .i64),.v (.sl 7),.v (.sl 8),.v (.int .i64),.v (.sl 9),.v (.sl 10),.v (.int .u8)],.row DV false,.row Fh false,.row Es false,.row Cc false,.row Ar false,.row Cc false,.row Ar false,.row Ar false,.row Ar false,.row Ht false]}
def Akl(x:Dc):M_:=[some (.box [.int .u8 x.k,S_ 1 0 x.ca.n,S_ 2 0 x.pi.n,.int .u8 x.pc,S_ 3 0 x.wo.n,S_ 4 0 x.gv.n,S_ 5 0 x.aa.n,S_ 6 0 x.fv.n,i64 x.rr,S_ 7 0 x.lr.n,S_ 8 0 x.lp.n,i64 x.ld,S_ 9 0 x.ba.n,S_ 10 0 x.pa.n,.int .u8 x.cl]),Au DV x.ca,Au Fh x.pi,Au Es x.wo,Au Cc x.gv,Au Ar x.aa,Au Cc x.fv,Au Ar x.lr,Au Ar x.lp,Au Ar x.ba,Au Ht x.pa]
def itD(x:Dc):List It:=[.i x.k,.n x.ca.n,.n x.pi.n,.i x.pc,.n x.wo.n,.n x.gv.n,.n x.aa.n,.n x.fv.n,.i x.rr,.n x.lr.n,.n x.lp.n,.i x.ld,.n x.ba.n,.n x.pa.n,.i x.cl,.r x.ca,.r x.pi,.r x.wo,.r x.gv,.r x.aa,.r x.fv,.r x.lr,.r x.lp,.r x.ba,.r x.pa]
def asI:List It->Option (Bool×Dc)
 |[.i k,.n can,.n pin,.i pc,.n won,.n gvn,.n aan,.n fvn,.i rr,.n lrn,.n lpn,.i ld,.n ban,.n pan,.i cl,.r ca,.r pi,.r wo,.r gv,.r aa,.r fv,.r lr,.r lp,.r ba,.r pa]=>some (decide (can=ca.n∧pin=pi.n∧won=wo.n∧gvn=gv.n∧aan=aa.n∧fvn=fv.n∧lrn=lr.n∧lpn=lp.n∧ban=ba.n∧pan=pa.n),⟨k,ca,pi,pc,wo,gv,aa,fv,rr,lr,lp,ld,ba,pa,cl⟩)
 |_=>none
def qM{r:List It}{x:Dc}(h:asI r=some (true,x)):r=itD x:=by
 unfold asI at h;split at h
 ·simp only[A5,A6,A3]at h;obtain⟨⟨rfl,rfl,rfl,rfl,rfl,rfl,rfl,rfl,rfl,rfl⟩,rfl⟩:=h;rfl
 ·cases h
def eqD(x:Dc):Bool:=decide (x.ca.n=x.ca.n∧x.pi.n=x.pi.n∧x.wo.n=x.wo.n∧x.gv.n=x.gv.n∧x.aa.n=x.aa.n∧x.fv.n=x.fv.n∧x.lr.n=x.lr.n∧x.lp.n=x.lp.n∧x.ba.n=x.ba.n∧x.pa.n=x.pa.n)&&decide ((0:Int)=0)
def UO(x:Dc):eqD x=true:=Bool.and_eq_true_iff.2 ⟨A4 ⟨rfl,rfl,rfl,rfl,rfl,rfl,rfl,rfl,rfl,rfl⟩,rfl⟩
abbrev A_w:=Bool×Y_×Dc
def d_w:List It->Option A_w
 |.s s::.i j::r=>match asI r with
  |some (b,x)=>some (b&&decide (j=0),s,x)
  |none=>none
 |_=>none
def bD(s:Y_)(j:Int)(x:Dc):List It:=.s s::.i j::itD x
def pW(n:Nat):Dl:={τ:=pu 1++[.v (.c (.pointer (some ⟨0,0,some 0⟩)))]++pu 1++[.v .str]++pu n++[.v (.int .i64)]++pu (185-n),saved:=[[]],mem:=wP.mem}
def eW(a:Y_)(x:Dc):St:=⟨us 1++[.pointer (some ⟨0,0,some 0⟩)]++us 1++[.string a]++us 186,[[]],Akl x⟩
def eV(a:Y_)(_:Dc):St:=⟨us 3++[.string a]++us 186,[[]],[]⟩
def wL(id n e:Nat)(lv lx:List Tmp)(len:Dc->Nat)(b0:Nat)(c:Dc->Nat->Bool)(ln:Dc->Nat->List UInt8)(ke:Y_->Dc->St):FoldL A_w Y_:=⟨25,id,lv,lx,pW n,d_w,fun x j a=>bD a (j:Int) x.2.2,fun x=>len x.2.2,fun x=>x.1&&(decide (len x.2.2<=1000000∧x.2.1.size<=b0)&& !Ag (fun i=> !c x.2.2 i) (len x.2.2) 0),fun x=>x.2.1,fun x j a=>a++txt (ln x.2.2 j),fun x a K=>K (.exit e) (ke a x.2.2)⟩
def wL_p{id n e:Nat}{lv lx:List Tmp}{len:Dc->Nat}{b0:Nat}{c:Dc->Nat->Bool}{ln:Dc->Nat->List UInt8}{ke:Y_->Dc->St}{x:A_w}:(wL id n e lv lx len b0 c ln ke).cnd x=true↔x.1=true∧len x.2.2<=1000000∧x.2.1.size<=b0∧∀i,i<len x.2.2->c x.2.2 i=true:=by
 show(x.1&&(decide (len x.2.2<=1000000∧x.2.1.size<=b0)&& !Ag (fun i=> !c x.2.2 i) (len x.2.2) 0))=true↔_;rw[A2,A2,A3,Bool.not_eq_true',anyF_false];constructor
 ·rintro⟨h1,⟨h2,h3⟩,h4⟩;exact⟨h1,h2,h3,fun i hi=>by have:=h4 i (Nat.zero_le _) o_;simpa using this⟩
 ·rintro⟨h1,h2,h3,h4⟩;exact⟨h1,⟨h2,h3⟩,fun i _ hi=>by rw[h4 i o_];rfl⟩
def XP{C:Cx}{id n e:Nat}{lv lx:List Tmp}{len:Dc->Nat}{b0:Nat}{c:Dc->Nat->Bool}{ln:Dc->Nat->List UInt8}{ke:Y_->Dc->St}(hN:C.N=18446744073709551616)(h1:Nat.beq ((EN C.P 25).filter fun b=>Nat.beq (Ap b) id).length 1=true)(m:Nat)(hm:∀x i,c x i=true->(txt (ln x i)).size<=m)
  (hr:∀q x j a,len x<=1000000->j<len x->c x j=true->a.size<=b0+m*j->∀R K,Ak C 25 id q (bst (pW n) (bD a (j:Int) x)) (BF lv (some lx) R K)=R (bst (pW n) (bD (a++txt (ln x j)) (IntKind.i64.wrap ((j:Int)+1)) x)))
  (he:∀q x a R K,Ak C 25 id q (bst (pW n) (bD a ((len x:Nat):Int) x)) (BF lv (some lx) R K)=K (.exit e) (ke a x)):Ah C (wL id n e lv lx len b0 c ln ke).C:=(wL id n e lv lx len b0 c ln ke).ok (fun x j a=>a.size<=b0+m*j) h1
 (fun its x h hc=>by
  replace h:d_w its=some x:=h;unfold d_w at h;split at h
  ·split at h
   ·rename_i b y hp;cases h;obtain⟨hb,he⟩:=Bool.and_eq_true_iff.1 (wL_p.1 hc).1;obtain rfl:=AD he;subst hb;rw[qM hp];rfl
   ·cases h
  ·cases h)
 (fun x hc=>by
  have:=(wL_p.1 hc).2.1;rw[hN];show len x.2.2<_;omega)
 (fun x hc=>by
  have:=(wL_p.1 hc).2.2.1;show x.2.1.size<=b0+m*0;omega)
 (fun x j a hc hi hI=>by
  replace hI:a.size<=b0+m*j:=hI;have:=hm x.2.2 j ((wL_p.1 hc).2.2.2 j hi);show(a++txt (ln x.2.2 j)).size<=b0+m*(j+1);rw[GI,Nat.mul_add,Nat.mul_one];omega)
 (fun q x j a hc hi hI R K=>by
  have h2:=(wL_p.1 hc).2.1;have hi':j<len x.2.2:=hi;refine(hr q x.2.2 j a h2 hi ((wL_p.1 hc).2.2.2 j hi) hI R K).trans ?_;rw[Eg o_];rfl)
 (fun q x a hc hI R K=>he q x.2.2 a R K)
abbrev A_w14:=Bool×Y_×Int×Dc
def uZ:List It->Option A_w14
 |.s s::.i i::.i j::r=>match asI r with
  |some (b,x)=>some (b&&decide (j=0),s,i,x)
  |none=>none
 |_=>none
def w14:FoldL A_w14 Y_:=⟨25,14,[1,3,5,6],[1,2,3,5],{τ:=pu 1++[.v (.c (.pointer (some ⟨0,0,some 0⟩)))]++pu 1++[.v .str]++pu 1++[.v (.int .i64),.v (.int .i64)]++pu 183,saved:=[[]],mem:=wP.mem},uZ,fun x j a=>.s a::.i x.2.2.1::.i (j:Int)::itD x.2.2.2,fun x=>(x.2.2.2.pi.R x.2.2.1.toNat 0).n,fun x=>x.1&&decide (0<=x.2.2.1∧x.2.2.1<(x.2.2.2.pi.n:Int)∧x.2.1.size<=2000000000000000∧fZ 4 (x.2.2.2.pi.R x.2.2.1.toNat 0)),fun x=>x.2.1,fun x j a=>a++txt (Ut (x.2.2.2.pi.R x.2.2.1.toNat 0) j),fun x a K=>K (.exit 5) ⟨us 1++[.pointer (some ⟨0,0,some 0⟩)]++us 1++[.string a]++us 1++[i64 x.2.2.1]++us 184,[[]],Akl x.2.2.2⟩⟩
def w6:FoldL A_w Y_:=wL 6 0 1 [1,3,4] [1,2,3] (fun x=>x.ca.n) 1000 (fun x e=>decide (sH x.ca e)) (fun x j=>Tt x.ca j) eW
def w10:FoldL A_w Y_:=wL 10 1 3 [1,3,5] [1,2,3] (fun x=>x.pi.n) 1000000000000000 (fun x e=>decide (fZ 4 (x.pi.R e 0))) (fun x j=>aP x.pi j) eW
def w19:FoldL A_w Y_:=wL 19 3 7 [1,3,7] [2,3] (fun x=>x.wo.n) 3000000000000000 (fun x e=>decide (fZ 2 (x.wo.R e 0))) (fun x j=>woL x.wo j) eV
def w29:FoldL A_w Y_:=wL 29 4 9 [1,3,8] [2,3] (fun x=>x.pa.n) 1000000000000000 (fun x e=>decide (PyC x.pa e)) (fun x j=>paL x.pa j) eV
noncomputable def Cw:Cx:=AP Tryz.prog fns [(26,Sc.Fdec),(66,Fli),(67,Fra),(68,Agy)] [w6.C,w14.C,w10.C,w19.C,w29.C]
def bj(j:Int)(n:Nat)(t:OD):OD:=br (decide (0<=j)&&decide (j<(n:Int))) t none
def JH{j n:Nat}{t:OD}(h:j<n):bj (j:Int) n t=t:=Aq (by simp only[A2,A3];omega) rfl
def Aow(t:Row)(j:Nat):Row:=w_ (((((Row.zeros 2).setI 0 0 (t.I j 0)).setI 0 1 (t.I j 1)).setI 1 0 (t.I j 2)).setI 1 1 (t.I j 3)) 0 2
def Ak7(t:Row)(j:Nat):Row:=w_ ((((Row.zeros 3).setI 0 0 (t.I j 0)).setI 1 0 (t.I j 1)).setI 2 0 (t.I j 2)) 0 3
def rqT(w:Row)(s:Y_)(k:Y_->OD):OD:=br (decide (w.n<=1000000∧∀i,i<w.n->(Rt.iR (w.I i 0)&&Rt.iR (w.I i 1))=true)) (DZ s (txt (FO (fun k=>(w.I k 0,w.I k 1)) w.n)) k) none
section
variable(R:St->OD)(K:X->St->OD)(q:Nat)(s:Y_)(i j:Int)(x:Dc)
set_option maxRecDepth 100000
def Apa:Ak Cw 25 6 q (bst (pW 0) (bD s j x)) (BF [1,3,4] (some [1,2,3]) R K)=br (j<(x.ca.n:Int)) (DZ s sCk fun s=>bj j x.ca.n (br (Sc.dcA (x.ca.I (0+j.toNat) 0)) (DZ s (Sc.ddP (x.ca.I (0+j.toNat) 0)) fun s=>bj j x.ca.n (nmT (x.ca.R (0+j.toNat) 1) (DZ s (txt (W9 (x.ca.R (0+j.toNat) 1))) fun s=>bj j x.ca.n (nmT (x.ca.R (0+j.toNat) 2) (DZ s (txt (W9 (x.ca.R (0+j.toNat) 2))) fun s=>DZ s sLf fun s=>R (bst (pW 0) (bD s (IntKind.i64.wrap (j+1)) x))))))) none)) (K (.exit 1) (eW s x)):=k_
def Afj:Ak Cw 25 14 q (bst w14.p (.s s::.i i::.i j::itD x)) (BF [1,3,5,6] (some [1,2,3,5]) R K)=bj i x.pi.n (br (j<((x.pi.R (0+i.toNat) 0).n:Int)) (bj i x.pi.n (bj j (x.pi.R (0+i.toNat) 0).n (bj i x.pi.n (bj j (x.pi.R (0+i.toNat) 0).n (rqT (Aow (x.pi.R (0+i.toNat) 0) (0+j.toNat)) s fun s=>R (bst w14.p (.s s::.i i::.i (IntKind.i64.wrap (j+1))::itD x))))))) (K (.exit 5) ⟨us 1++[.pointer (some ⟨0,0,some 0⟩)]++us 1++[.string s]++us 1++[i64 i]++us 184,[[]],Akl x⟩)):=k_
def Ade:Ak Cw 25 10 q (bst (pW 1) (bD s j x)) (BF [1,3,5] (some [1,2,3]) R K)=br (j<(x.pi.n:Int)) (DZ s sPiece fun s=>br (w14.cnd (eqD x,s,j,x)) (DZ (fo (Ut (x.pi.R j.toNat 0)) (x.pi.R j.toNat 0).n s) sLf fun s=>R (bst (pW 1) (bD s (IntKind.i64.wrap (j+1)) x))) none) (K (.exit 3) (eW s x)):=k_
def Afh:Ak Cw 25 19 q (bst (pW 3) (bD s j x)) (BF [1,3,7] (some [2,3]) R K)=br (j<(x.wo.n:Int)) (DZ s sWorth fun s=>bj j x.wo.n (rqT (x.wo.R (0+j.toNat) 0) s fun s=>DZ s sLf fun s=>R (bst (pW 3) (bD s (IntKind.i64.wrap (j+1)) x)))) (K (.exit 7) (eV s x)):=k_
def Ad6:Ak Cw 25 29 q (bst (pW 4) (bD s j x)) (BF [1,3,8] (some [2,3]) R K)=br (j<(x.pa.n:Int)) (bj j x.pa.n (DZ s sPay fun s=>nmT (Ak7 x.pa (0+j.toNat)) (DZ s (txt (W9 (Ak7 x.pa (0+j.toNat)))) fun s=>DZ s sLf fun s=>R (bst (pW 4) (bD s (IntKind.i64.wrap (j+1)) x))))) (K (.exit 9) (eV s x)):=k_
end
def JW(l:List UInt8):(txt l).size=l.length:=Rt.txt_size l
def YK:sLf.size=1:=rfl
def Apu:Ah Cw w6.C:=XP rfl k_ 100000000 (fun x i h=>RF (AD h)) (fun q x j a hl hj hc ha R K=>by
 obtain⟨c1,c2,c3⟩:=AD hc;have z:=Hq c1;have k1:=EE c2;have k2:=EE c3;have z1:=iY;have z2:=YK;rw[Apa,A9,AE];refine Aq (A4 o_) ?_;rw[Ba o_,JH hj];refine Aq (Vg c1) ?_;rw[Ba (by rw[GI];omega),JH hj,JU c2,Ba (by simp only[GI,JW];omega),JH hj,JU c3,Ba (by simp only[GI,JW];omega),Ba (by simp only[GI,JW];omega)];rw[<-Al5];rfl)
 (fun q x a R K=>(Apa R K q a _ x).trans (BC (AB o_) rfl))
def uX{w:Row}{s:Y_}{k:Y_->OD}(h:w.n<=1000000)(hc:∀i,i<w.n->(Rt.iR (w.I i 0)&&Rt.iR (w.I i 1))=true)(hs:s.size<=9000000000000000000):rqT w s k=k (s++txt (FO (fun k=>(w.I k 0,w.I k 1)) w.n)):=by
 refine Aq (A4 ⟨h,hc⟩) ?_;have:=Jb (x:=fun k=>(w.I k 0,w.I k 1)) w.n hc;rw[Ba (by rw[JW];omega)]
def Alm:Ah Cw w14.C:=w14.ok (fun x j a=>a.size<=2000000000000000+100*j) k_
 (fun its x h hc=>by
  replace h:uZ its=some x:=h;unfold uZ at h;split at h
  ·split at h
   ·rename_i b y hp;cases h;obtain⟨hb,he⟩:=Bool.and_eq_true_iff.1 (Bool.and_eq_true_iff.1 hc).1;obtain rfl:=AD he;subst hb;rw[qM hp];rfl
   ·cases h
  ·cases h)
 (fun x hc=>by
  have h:=(AD (Bool.and_eq_true_iff.1 hc).2).2.2.2.1;show(x.2.2.2.pi.R x.2.2.1.toNat 0).n<18446744073709551616;omega)
 (fun x hc=>by
  have h:=(AD (Bool.and_eq_true_iff.1 hc).2).2.2.1;show x.2.1.size<=2000000000000000+100*0;omega)
 (fun x j a hc hi hI=>by
  have h:=UI ((AD (Bool.and_eq_true_iff.1 hc).2).2.2.2.2 j hi);replace hI:a.size<=2000000000000000+100*j:=hI;show(a++txt (Ut (x.2.2.2.pi.R x.2.2.1.toNat 0) j)).size<=2000000000000000+100*(j+1);rw[GI,JW];omega)
 (fun q x j a hc hi hI R K=>by
  obtain⟨xb,s,i,x⟩:=x;obtain⟨h1,h2,h3,h4,h5⟩:=AD (Bool.and_eq_true_iff.1 hc).2;replace hi:j<(x.pi.R i.toNat 0).n:=hi;replace hI:a.size<=2000000000000000+100*j:=hI;have q4:∀c,c<4->Rt.iR ((x.pi.R i.toNat 0).I j c)=true:=h5 j hi;obtain⟨n,rfl⟩:∃n:Nat,i=(n:Int):=⟨i.toNat,by have h1':0<=i:=h1;omega⟩;rw[A9]at hi q4 h4;have hn:n<x.pi.n:=by have h2':(n:Int)<(x.pi.n:Int):=h2;omega
  replace h4:(x.pi.R n 0).n<=1000000:=h4;refine(Afj R K q a (n:Int) (j:Int) x).trans ?_;rw[A9,A9,AE,AE,JH hn];refine Aq (A4 o_) ?_;rw[JH hn,JH hi,JH hn,JH hi,uX (show(Aow (x.pi.R n 0) j).n<=1000000 from(by decide:2<=1000000)) (fun e he=>?_) o_,Eg o_]
  ·rfl
  ·obtain rfl|rfl:e=0∨e=1:=by
    have:e<2:=he;omega
   ·show(Rt.iR ((x.pi.R n 0).I j 0)&&Rt.iR ((x.pi.R n 0).I j 1))=true;rw[q4 0 d_,q4 1 d_];rfl
   ·show(Rt.iR ((x.pi.R n 0).I j 2)&&Rt.iR ((x.pi.R n 0).I j 3))=true;rw[q4 2 d_,q4 3 d_];rfl)
 (fun q x a hc hI R K=>by
  obtain⟨xb,s,i,x⟩:=x;obtain⟨h1,h2,h3,h4,h5⟩:=AD (Bool.and_eq_true_iff.1 hc).2;refine(Afj R K q a i _ x).trans ?_;refine Aq (by simp only[A2,A3];exact⟨h1,h2⟩) (BC (AB ?_) rfl);rw[AE];show¬(((x.pi.R i.toNat 0).n:Nat):Int)<_;omega)
def Agh:Ah Cw w10.C:=XP rfl k_ 1000000000 (fun x i h=>RY (AD h)) (fun q x j a hl hj hc ha R K=>by
 have c:fZ 4 (x.pi.R j 0):=AD hc;have k:=OC (x.pi.R j 0).n c.2;have n1:=c.1;have z1:sPiece.size=5:=rfl;have z2:=YK;have ft:fo (Ut (x.pi.R j 0)) (x.pi.R j 0).n (a++sPiece)=a++sPiece++txt (UZ (x.pi.R j 0) (x.pi.R j 0).n):=Le (ln:=Ut (x.pi.R j 0)) (L:=UZ (x.pi.R j 0)) rfl (fun _=>rfl) (a++sPiece) (x.pi.R j 0).n;rw[Ade,A9];refine Aq (A4 o_) ?_;rw[Ba o_];refine Aq (Bool.and_eq_true_iff.2 ⟨UO x,A4 ⟨by show(0:Int)<=(j:Int);omega,by show(j:Int)<(x.pi.n:Int);omega,by show(a++sPiece).size<=_;rw[GI];omega,c⟩⟩) ?_;rw[ft,Ba (by simp only[GI,JW];omega),KG];rfl)
 (fun q x a R K=>(Ade R K q a _ x).trans (BC (AB o_) rfl))
def Ago:Ah Cw w19.C:=XP rfl k_ 100000000 (fun x i h=>Y8 (AD h)) (fun q x j a hl hj hc ha R K=>by
 have c:fZ 2 (x.wo.R j 0):=AD hc;have cc:∀e,e<(x.wo.R j 0).n->(Rt.iR ((x.wo.R j 0).I e 0)&&Rt.iR ((x.wo.R j 0).I e 1))=true:=fun e he=>by rw[c.2 e he 0 d_,c.2 e he 1 d_];rfl
 have k:=Jb (x:=fun k=>((x.wo.R j 0).I k 0,(x.wo.R j 0).I k 1)) (x.wo.R j 0).n cc;have n1:=c.1;have z1:sWorth.size=5:=rfl;have z2:=YK;rw[Afh,A9,AE];refine Aq (A4 o_) ?_;rw[Ba o_,JH hj,uX c.1 cc (by rw[GI];omega),Ba (by simp only[GI,JW];omega),KG];rfl)
 (fun q x a R K=>(Afh R K q a _ x).trans (BC (AB o_) rfl))
def Akv:Ah Cw w29.C:=XP rfl k_ 1000 (fun x i h=>XX (AD h)) (fun q x j a hl hj hc ha R K=>by
 have c:PyC x.pa j:=AD hc;have cn:Yv (Ak7 x.pa j):=⟨(by decide:3<=1000000),fun e he=>by
  obtain rfl|rfl|rfl:e=0∨e=1∨e=2:=by
   have:e<3:=he;omega
  ·exact c.1
  ·exact c.2.1
  ·exact c.2.2⟩
 have k:=EE cn;have z1:sPay.size=3:=rfl;have z2:=YK;rw[Ad6,A9,AE];refine Aq (A4 o_) ?_;rw[JH hj,Ba o_,JU cn,Ba (by simp only[GI,JW];omega),Ba (by simp only[GI,JW];omega),KG];rfl)
 (fun q x a R K=>(Ad6 R K q a _ x).trans (BC (AB o_) rfl))
def Oj{r:Row}(h:xX r):(vaL r).length<=100000000000000:=by
 have e:∀n,EI sValues (fun e k=>(r.R e 0).I k 0) (fun e=>(r.R e 0).n) n=Qp (aZ r) n:=fun n=>by
  induction n with
  |zero=>rfl
  |succ n ih=>show _++_=_++_;rw[ih];rfl
 have h1:=Gh (f:=aZ r) (m:=100000000) r.n fun e he=>SE (h.2 e he);have h2:=h.1;unfold vaL;rw[e];omega
def wrG(x:Dc):List UInt8:=FM sGoods++vaL x.gv++(Ad sGive++W9 x.aa++[10])
def wrS(x:Dc):List UInt8:=FM sSettle++(Ad sBalances++W9 x.ba++[10])++Qp (paL x.pa) x.pa.n
def wrC(x:Dc):List UInt8:=FM sCake++Qp (Tt x.ca) x.ca.n++Qp (aP x.pi) x.pi.n++Qp (woL x.wo) x.wo.n
def wrR(x:Dc):List UInt8:=FM sRent++(Ad sRent++(32::itoa x.rr)++[10])++vaL x.fv++(Ad sRooms++W9 x.lr++[10])++(Ad sPrices++(32::itoa x.ld)++W9 x.lp++[10])
def Qj(x:Dc):List UInt8:=bif x.k==1 then wrC x else bif x.k==2 then wrG x else bif x.k==3 then wrR x else bif x.k==4 then wrS x else []
abbrev iP(x:Dc):Prop:=(x.k=1->(x.ca.n<=1000000∧∀e,e<x.ca.n->sH x.ca e)∧(x.pi.n<=1000000∧∀e,e<x.pi.n->fZ 4 (x.pi.R e 0))∧(x.wo.n<=1000000∧∀e,e<x.wo.n->fZ 2 (x.wo.R e 0)))∧(x.k=2->xX x.gv∧Yv x.aa)∧(x.k=3->dR x.rr=true∧xX x.fv∧Yv x.lr∧dR x.ld=true∧Yv x.lp)∧(x.k=4->Yv x.ba∧x.pa.n<=1000000∧∀e,e<x.pa.n->PyC x.pa e)
def jC(c:Dc->Bool)(o:Dc->Y_):FD
 |[d]=>match Fe d with
  |some x=>some (c x,[.v (.string (o x))])
  |none=>none
 |_=>none
def hdC:Y_:=⟨⟨[100,111,99,117,109,101,110,116,32,99,97,107,101,10]⟩⟩
def hdG:Y_:=⟨⟨[100,111,99,117,109,101,110,116,32,103,111,111,100,115,10]⟩⟩
def hdR:Y_:=⟨⟨[100,111,99,117,109,101,110,116,32,114,101,110,116,10,114,101,110,116,32]⟩⟩
def hdS:Y_:=⟨⟨[100,111,99,117,109,101,110,116,32,115,101,116,116,108,101,10,98,97,108,97,110,99,101,115]⟩⟩
def nlP:Y_:=⟨⟨[10,112,114,105,99,101,115,32]⟩⟩
def mD(x:Dc):BH Cw 6 25 [x.D]=br (x.k==1) (br (w6.cnd (eqD x,hdC,x)) (br (w10.cnd (eqD x,fo (Tt x.ca) x.ca.n hdC,x)) (br (w19.cnd (eqD x,fo (aP x.pi) x.pi.n (fo (Tt x.ca) x.ca.n hdC),x)) (stR (fo (woL x.wo) x.wo.n (fo (aP x.pi) x.pi.n (fo (Tt x.ca) x.ca.n hdC)))) none) none) none) (br (x.k==2) (br (xX (Ae x.gv)) (DZ hdG (txt (vaL x.gv)) fun s=>DZ s sGive fun s=>nmT x.aa (DZ s (txt (W9 x.aa)) fun s=>DZ s sLf stR)) none) (br (x.k==3) (br (Sc.dcA x.rr) (DZ hdR (Sc.ddP x.rr) fun s=>DZ s sLf fun s=>br (xX (Ae x.fv)) (DZ s (txt (vaL x.fv)) fun s=>DZ s sRooms fun s=>nmT x.lr (DZ s (txt (W9 x.lr)) fun s=>DZ s nlP fun s=>br (Sc.dcA x.ld) (DZ s (Sc.ddP x.ld) fun s=>nmT x.lp (DZ s (txt (W9 x.lp)) fun s=>DZ s sLf stR)) none)) none) none) (br (x.k==4) (nmT x.ba (DZ hdS (txt (W9 x.ba)) fun s=>DZ s sLf fun s=>br (w29.cnd (eqD x,s,x)) (stR (fo (paL x.pa) x.pa.n s)) none)) (stR .empty)))):=k_
def Apv:LH Cw Wd:=BA enter mixed (Aw (Sc.den_dec.at _)<|Aw (den_li.at _)<|Aw Ali<|Aw (den_vas.at _) AX) (Aw Apu<|Aw Alm<|Aw Agh<|Aw Ago<|Aw Akv AX)
def Af0{r:Row}(h:xX r):xX (Ae r):=h
def Arc(x:Dc)(e:x.k=1)(h:iP x):BH Cw 6 25 [x.D]=stR (txt (wrC x)):=by
 obtain⟨⟨a1,a2⟩,⟨b1,b2⟩,c1,c2⟩:=h.1 e;have la:=Gh (f:=Tt x.ca) (m:=100000000) x.ca.n fun i hi=>RF (a2 i hi);have lb:=Gh (f:=aP x.pi) (m:=1000000000) x.pi.n fun i hi=>RY (b2 i hi);have z:hdC.size=14:=rfl;have za:(fo (Tt x.ca) x.ca.n hdC).size=14+(Qp (Tt x.ca) x.ca.n).length:=by rw[Qz,GI,JW,z]
 have zb:(fo (aP x.pi) x.pi.n (fo (Tt x.ca) x.ca.n hdC)).size=14+(Qp (Tt x.ca) x.ca.n).length+(Qp (aP x.pi) x.pi.n).length:=by rw[Qz,GI,JW,za]
 refine(mD x).trans ?_;rw[e];refine Aq rfl (Aq (wL_p.2 ⟨UO x,a1,by show hdC.size<=1000;omega,fun i hi=>A4 (a2 i hi)⟩) (Aq (wL_p.2 ⟨UO x,b1,by show(fo (Tt x.ca) x.ca.n hdC).size<=_;omega,fun i hi=>A4 (b2 i hi)⟩) (Aq (wL_p.2 ⟨UO x,c1,by show(fo (aP x.pi) x.pi.n (fo (Tt x.ca) x.ca.n hdC)).size<=_;omega,fun i hi=>A4 (c2 i hi)⟩) ?_)));rw[Qz,Qz,Qz,show hdC=txt (FM sCake)from rfl,Rt.txt_app,Rt.txt_app,Rt.txt_app];rfl
def Aqu(x:Dc)(e:x.k=2)(h:iP x):BH Cw 6 25 [x.D]=stR (txt (wrG x)):=by
 obtain⟨a,b⟩:=h.2.1 e;have la:=Oj a;have lb:=EE b;have z:hdG.size=15:=rfl;have z2:sGive.size=4:=rfl;have z3:sLf.size=1:=rfl;refine(mD x).trans ?_;rw[e];refine BC rfl (Aq rfl (Aq (A4 (Af0 a)) ?_));rw[Ba (by rw[JW];omega),Ba (by rw[GI,JW];omega),JU b,Ba (by rw[GI,GI,JW,JW];omega),Ba (by rw[GI,GI,GI,JW,JW];omega)];rw[show hdG=txt (FM sGoods)from rfl,show sGive=txt (Ad sGive)from(Rt.txt_by _).symm,show sLf=txt [10]from rfl,Rt.txt_app,Rt.txt_app,Rt.txt_app,Rt.txt_app];unfold wrG;simp only[List.append_assoc]
def Aqz(x:Dc)(e:x.k=4)(h:iP x):BH Cw 6 25 [x.D]=stR (txt (wrS x)):=by
 obtain⟨a,b1,b2⟩:=h.2.2.2 e;have la:=EE a;have z:hdS.size=24:=rfl;have z3:sLf.size=1:=rfl;refine(mD x).trans ?_;rw[e];refine BC rfl (BC rfl (BC rfl (Aq rfl ?_)));rw[JU a,Ba (by rw[JW];omega),Ba (by rw[GI,JW];omega)];refine Aq (wL_p.2 ⟨UO x,b1,by show(hdS++txt (W9 x.ba)++sLf).size<=_;rw[GI,GI,JW];omega,fun i hi=>A4 (b2 i hi)⟩) ?_;rw[Qz,show hdS=txt (FM sSettle++Ad sBalances)from rfl,show sLf=txt [10]from rfl,Rt.txt_app,Rt.txt_app,Rt.txt_app];unfold wrS;simp only[List.append_assoc]
def Ar2(x:Dc)(e:x.k=3)(h:iP x):BH Cw 6 25 [x.D]=stR (txt (wrR x)):=by
 obtain⟨a,b,c,d,f⟩:=h.2.2.1 e;have lb:=Oj b;have lc:=EE c;have lf:=EE f;have la:=Hq a;have l4:=Hq d;have z:hdR.size=19:=rfl;have z2:sRooms.size=5:=rfl;have z3:sLf.size=1:=rfl;have z4:nlP.size=8:=rfl;refine(mD x).trans ?_;rw[e];refine BC rfl (BC rfl (Aq rfl (Aq (Vg a) ?_)));rw[Ba o_,Ba (by rw[GI];omega)];refine Aq (A4 (Af0 b)) ?_;rw[Ba (by simp only[GI,JW];omega),Ba (by simp only[GI,JW];omega),JU c,Ba (by simp only[GI,JW];omega),Ba (by simp only[GI,JW];omega)];refine Aq (Vg d) ?_;rw[Ba (by simp only[GI,JW];omega),JU f,Ba (by simp only[GI,JW];omega),Ba (by simp only[GI,JW];omega)];unfold Sc.ddP;rw[show hdR=txt (FM sRent++Ad sRent++[32])from rfl,show sRooms=txt (Ad sRooms)from(Rt.txt_by _).symm,show nlP=txt ([10]++Ad sPrices++[32])from rfl,show sLf=txt [10]from rfl];simp only[Rt.txt_app];unfold wrR;simp only[List.append_assoc,List.cons_append,List.nil_append]
def den_wrr:DenW Tryz.prog Wd 25 (jC (fun x=>decide (iP x)) fun x=>txt (Qj x)):=CO Apv fun ds rs h=>by
 unfold jC at h;split at h
 ·split at h
  ·rename_i x hx;simp only[A5,A6]at h;obtain⟨hc,rfl⟩:=h;have hc:=AD hc;rw[CZ hx];unfold Qj;by_cases e1:x.k=1
   ·rw[Arc x e1 hc,e1];rfl
   by_cases e2:x.k=2
   ·rw[Aqu x e2 hc,e2];rfl
   by_cases e3:x.k=3
   ·rw[Ar2 x e3 hc,e3];rfl
   by_cases e4:x.k=4
   ·rw[Aqz x e4 hc,e4];rfl
   refine(mD x).trans ?_;have k1:(x.k==1)=false:=by simpa using e1
   have k2:(x.k==2)=false:=by simpa using e2
   have k3:(x.k==3)=false:=by simpa using e3
   have k4:(x.k==4)=false:=by simpa using e4
   rw[k1,k2,k3,k4];rfl
  ·cases h
 ·cases h
noncomputable def CtR(rc:Dc->Bool)(ce:Dc->Int)(wc:Dc->Bool)(wo:Dc->Y_):Cx:=AP Tryz.prog fns [(11,Wu rc ce),(25,jC wc wo),(26,Sc.Fdec)] []
def sCl:Y_:=⟨⟨[99,108,97,105,109,115,32]⟩⟩
def rtT(wc:Dc->Bool)(wr:Dc->Y_)(y:Dc)(n:Int):OD:=br (wc y) (DZ (wr y) sCl fun s=>br (Sc.dcA (IntKind.i64.wrap n)) (DZ s (Sc.ddP (IntKind.i64.wrap n)) fun s=>DZ s sLf fun s=>br (decide ((s.size:Int)>60000)) (some [.v (.string .empty),.v (i64 4)]) (some [.v (.string s),.v (i64 0)])) none) none
def utx(rc:Dc->Bool)(ce:Dc->Int)(wc:Dc->Bool)(wr:Dc->Y_)(x:Dc):BH (CtR rc ce wc wr) 6 7 [x.D]=br (rc (wD x)) (br (ce (wD x) !=0) (some [.v (.string .empty),.v (i64 (ce (wD x)))]) (br (x.k==1) (rtT wc wr (wD x) x.pc) (rtT wc wr (wD x) x.cl))) none:=k_
def PU(x:Dc):List UInt8:=Qj x++Q8 (bif x.k==1 then x.pc else x.cl)
def Acv{x:Dc}(h:iP x):(Qj x).length<=10000000000000000:=by
 unfold Qj;by_cases e1:x.k=1
 ·obtain⟨⟨a1,a2⟩,⟨b1,b2⟩,c1,c2⟩:=h.1 e1;have la:=Gh (f:=Tt x.ca) (m:=100000000) x.ca.n fun i hi=>RF (a2 i hi);have lb:=Gh (f:=aP x.pi) (m:=1000000000) x.pi.n fun i hi=>RY (b2 i hi);have lc:=Gh (f:=woL x.wo) (m:=100000000) x.wo.n fun i hi=>Y8 (c2 i hi);have z:(FM sCake).length=14:=rfl;rw[e1];show(wrC x).length<=_;unfold wrC;simp only[AG];omega
 by_cases e2:x.k=2
 ·obtain⟨a,b⟩:=h.2.1 e2;have la:=Oj a;have lb:=EE b;have z:(FM sGoods).length=15:=rfl;have z2:(Ad sGive).length=4:=rfl;rw[e2];show(wrG x).length<=_;unfold wrG;simp only[AG,List.length_singleton];omega
 by_cases e3:x.k=3
 ·obtain⟨a,b,c,d,f⟩:=h.2.2.1 e3;have lb:=Oj b;have lc:=EE c;have lf:=EE f;have la:=C9 (IY a);have l4:=C9 (IY d);have z:(FM sRent).length=14:=rfl;have z1:(Ad sRent).length=4:=rfl;have z2:(Ad sRooms).length=5:=rfl;have z3:(Ad sPrices).length=6:=rfl;rw[e3];show(wrR x).length<=_;unfold wrR;simp only[AG,List.length_cons,List.length_nil];omega
 by_cases e4:x.k=4
 ·obtain⟨a,b1,b2⟩:=h.2.2.2 e4;have la:=EE a;have lb:=Gh (f:=paL x.pa) (m:=1000) x.pa.n fun i hi=>XX (b2 i hi);have z:(FM sSettle).length=16:=rfl;have z2:(Ad sBalances).length=8:=rfl;rw[e4];show(wrS x).length<=_;unfold wrS;simp only[AG,List.length_singleton];omega
 have k1:(x.k==1)=false:=by simpa using e1
 have k2:(x.k==2)=false:=by simpa using e2
 have k3:(x.k==3)=false:=by simpa using e3
 have k4:(x.k==4)=false:=by simpa using e4
 rw[k1,k2,k3,k4];exact Nat.zero_le _
def wcX(x:Dc):Bool:=iP (Bd x)
def wrX(x:Dc):Y_:=txt (Qj (Bd x))
def aY(x:Dc):Bool:=rkC (Bd x)
def Acm:DenW Tryz.prog Wd 25 (jC wcX wrX):=den_wrr.canon.less fun ds rs h=>by
 unfold jC at h;split at h
 ·rename_i d;split at h
  ·rename_i x hx;have e:=CZ hx;subst e;exact h
  ·cases h
 ·cases h
def YR:DenW Tryz.prog Wd 11 (Wu aY O6):=(den_ckr.at Wd).canon.less fun ds rs h=>by
 unfold Wu at h;split at h
 ·rename_i d;split at h
  ·rename_i x hx;have e:=CZ hx;subst e;exact h
  ·cases h
 ·cases h
noncomputable def CtX:Cx:=CtR aY O6 wcX wrX
def Afx:LH CtX Wd:=by
 unfold CtX CtR;exact BA enter mixed (Aw YR<|Aw Acm<|Aw (Sc.den_dec.at _) AX) AX
def gX{y:Dc}(hw:iP (Bd y)){n:Int}(h0:0<=n)(h1:n<=255):rtT wcX wrX y n=some [.v (.string (JJ 0 (Qj (Bd y)++Q8 n))),.v (i64 (JG 0 (Qj (Bd y)++Q8 n)))]:=by
 have hl:=Acv hw;have ew:IntKind.i64.wrap n=n:=wrap64 o_ o_;have hd:dR n=true:=dR_iff.2 ⟨o_,o_⟩;have ld:=Hq hd;have z:sCl.size=7:=rfl;have z2:sLf.size=1:=rfl;have e:txt (Qj (Bd y))++sCl++Sc.ddP n++sLf=txt (Qj (Bd y)++Q8 n):=by
  rw[show sCl=txt (Ad sClaims++[32])from rfl,show sLf=txt [10]from rfl];unfold Sc.ddP;rw[Rt.txt_app,Rt.txt_app,Rt.txt_app];unfold Q8;simp only[List.append_assoc,BI,List.cons_append,List.nil_append]
 unfold rtT;refine Aq (A4 hw) ?_;unfold wrX;rw[ew,Ba (by rw[JW];omega)];refine Aq (Vg hd) ?_;rw[Ba (by simp only[GI,JW];omega),Ba (by simp only[GI,JW];omega),e,JW];by_cases hz:60000<(Qj (Bd y)++Q8 n).length
 ·rw[A4 (show(((Qj (Bd y)++Q8 n).length:Nat):Int)>60000 by omega)];unfold JJ JG;rw[A4 hz];rfl
 ·rw[AB (show¬(((Qj (Bd y)++Q8 n).length:Nat):Int)>60000 by omega)];unfold JJ JG;rw[AB hz];rfl
def rtC(x:Dc):Bool:=aY x&&(O6 x !=0||decide (iP (Bd x)∧ClC x))
def nM(x:Dc):Y_:=JJ (O6 x) (PU (Bd x))
def fQ(x:Dc):Int:=JG (O6 x) (PU (Bd x))
def den_rtx:DenW Tryz.prog Wd 7 (LW rtC nM fQ):=CO Afx fun ds rs h=>by
 unfold LW at h;split at h
 ·split at h
  ·rename_i x hx;simp only[A5,A6]at h;obtain⟨hc,rfl⟩:=h;unfold rtC at hc;rw[A2]at hc;obtain⟨c1,c2⟩:=hc;rw[CZ hx];refine(utx aY O6 wcX wrX x).trans ?_;have ec:=Ai4 x;have e1:aY (wD x)=aY x:=by unfold aY;rw[ec]
   have e2:O6 (wD x)=O6 x:=by unfold O6;rw[ec]
   rw[e1,e2,c1,Aa];unfold nM fQ;cases h0:O6 x !=0
   ·rw[h0,Bool.false_or]at c2;obtain⟨w1,w2⟩:=AD c2;have hz:O6 x=0:=by simpa using h0
    rw[Ac,hz];have kk:(Bd x).k=x.k:=rfl;have kp:(Bd x).pc=x.pc:=rfl;have kc:(Bd x).cl=x.cl:=rfl;unfold PU;rw[kk,kp,kc];cases hk:x.k==1
    ·rw[Ac,gX (by rw[ec];exact w1) w2.2.2.1 w2.2.2.2,ec];rfl
    ·rw[Aa,gX (by rw[ec];exact w1) w2.1 w2.2.1,ec];rfl
   ·rw[Aa];unfold JJ JG;rw[h0];rfl
  ·cases h
 ·cases h
def Agq(c:Y_->Int->Row):FD
 |[.v (.string s),.v (.int .u8 k)]=>some (s.size<=1000000,[.slice [.str] (c s k)])
 |_=>none
def Api(s:Y_)(p:Px):St:=⟨[.string s]++us 1++[bx0,i64 12]++us 1++[bx1]++us 75,[[]],Pq p⟩
def Apd(s:Y_)(p:Px):St:=⟨[.string s]++us 1++[bx0]++us 2++[bx1]++us 75,[[]],Pq p⟩
def SzP.rt{p:Px}{j:Nat}(h:SzP p j)(w:List UInt8)(t:Row):SzP (BD w t p).2 (j+1):=by
 obtain⟨h1,h2,h3,h4,h5,h6⟩:=h;have g1:p.ca.n<=j+1:=o_;have g2:p.pi.n<=j+1:=o_;have g3:p.wo.n<=j+1:=o_;have g4:p.gv.n<=j+1:=o_;have g5:p.fv.n<=j+1:=o_;have g6:p.pa.n<=j+1:=o_;have same:SzP p (j+1):=⟨g1,g2,g3,g4,g5,g6⟩;have bc:∀(b:Bool)(x z:Bool×Px),SzP x.2 (j+1)->SzP z.2 (j+1)->SzP (bif b then x else z).2 (j+1):=fun b x z hx hz=>by cases b<;>assumption
 have bp:∀(b:Bool)(x z:Px),SzP x (j+1)->SzP z (j+1)->SzP (bif b then x else z) (j+1):=fun b x z hx hz=>by cases b<;>assumption
 unfold BD;refine bc _ _ _ ⟨g1,Nat.succ_le_succ h2,g3,g4,g5,g6⟩ (bc _ _ _ ⟨g1,g2,Nat.succ_le_succ h3,g4,g5,g6⟩ (bc _ _ _ same (bc _ _ _ (bc _ _ _ ⟨Nat.succ_le_succ h1,g2,g3,g4,g5,g6⟩ same)
  (bc _ _ _ (bp _ _ _ ⟨g1,g2,g3,Nat.succ_le_succ h4,g5,g6⟩ ⟨g1,g2,g3,g4,Nat.succ_le_succ h5,g6⟩) (bc _ _ _ same (bc _ _ _ (bc _ _ _ same same) (bc _ _ _ same (bc _ _ _ (bc _ _ _ same same) (bc _ _ _ same (bc _ _ _ (bc _ _ _ ⟨g1,g2,g3,g4,g5,Nat.succ_le_succ h6⟩ same) (bc _ _ _ (bc _ _ _ (bp _ _ _ same same) same) same)))))))))))
def SmW.sz{r r':Row}(h:SmW r r')(hz:AV r'=true):AV r=true:=by
 obtain⟨h1,h2⟩:=JK hz;exact uU (by rw[h.1];exact h1) fun i hi=>by
  rw[h.1]at hi;rw[h.2 i hi];exact h2 i hi
def Ako{s:Y_}{p:Px}{j:Nat}(hs:s.size<=100000)(hp:SzP p j)(hj:j<=1000000):QO (BG (Sc.cutR s 32)) p=true:=by
 obtain⟨h1,h2,h3,h4,h5,h6⟩:=hp;exact Bool.and_eq_true_iff.2 ⟨(Af9 s).tl.sz (SS hs),A4 ⟨o_,o_,o_,o_,o_,o_⟩⟩
def vG:Dl:={τ:=[.v .str]++pu 1++[.v (.c bx0)]++pu 1++[.v (.sl 1),.v (.c Yu),.v (.int .i64)]++pu 74,saved:=[[]],mem:=p_zd.mem.take 13}
abbrev A_lpz:=Bool×Y_×Row×Px
def itZ(s:Y_)(ln:Nat)(j:Int)(li:Row)(a:Px):List It:=.s s::.n ln::.i j::.r li::itP a
def uV:List It->Option A_lpz
 |.s s::.n ln::.i j::.r li::r=>match pxD r with
  |some (b,x)=>some (b&&decide (ln=li.n∧j=1),s,li,x)
  |none=>none
 |_=>none
def lpz:RunL A_lpz Px:=⟨9,15,[0,2,4,5,6,2193611276810005,137081043860005,535477160005,33471410005,125500005,33471430005,125530005,125540005,125560005,32156290005],[0,2,3,5],vG,uV,fun x j a=>itZ x.2.1 x.2.2.1.n ((j+1:Nat):Int) x.2.2.1 a,fun x=>x.2.2.1.n-1,fun x=>x.1&&decide (x.2.2.1.n<=1000000∧(∀i,i<x.2.2.1.n->(x.2.2.1.S i 0).size<=100000)∧SzP x.2.2.2 0),fun x=>x.2.2.2,fun x j a=>aF x.2.2.1 j a,fun x j a=>Xr x.2.2.1 j a,fun x j a K=>K .ret (Api x.2.1 (Xr x.2.2.1 j a)),fun x a K=>K (.exit 1) (Apd x.2.1 a)⟩
noncomputable def Cpz(LL:List LoopC)(cR:Y_->Int->Row)(qc:Row->Px->Bool)(qx:List UInt8->Row->Px->Bool×Px)(tc:Dc->Bool)(tS:Dc->Y_)(tE:Dc->Int):Cx:=AP Tryz.prog fns [(29,Agq cR),(7,LW tc tS tE)] LL [] [(30,Ahp qc qx)]
def zW(cR:Y_->Int->Row)(qx:List UInt8->Row->Px->Bool×Px)(ln:Y_)(a:Px):Bool×Px:=qx (Ad ((cR ln 32).S 0 0)) (BG (cR ln 32)) a
def Ae5(LL:List LoopC)(cR:Y_->Int->Row)(qc:Row->Px->Bool)(qx:List UInt8->Row->Px->Bool×Px)(tc:Dc->Bool)(tS:Dc->Y_)(tE:Dc->Int)(R:St->OD)(K:X->St->OD)(q:Nat)(s:Y_)(ln:Nat)(j:Int)(li:Row)(a:Px):Ak (Cpz LL cR qc qx tc tS tE) 9 15 q (bst vG (itZ s ln j li a)) (BF lpz.lv (some lpz.lx) R K)=br (j<(ln:Int)) (br (0<=j&&j<(ln:Int)) (br ((li.S (0+j.toNat) 0).size<=1000000) (g0 (cR (li.S (0+j.toNat) 0) 32) (tlW (cR (li.S (0+j.toNat) 0) 32) (br (eqX a&&qc (BG (cR (li.S (0+j.toNat) 0) 32)) a) (br (!(zW cR qx (li.S (0+j.toNat) 0) a).1) (K .ret (Api s (zW cR qx (li.S (0+j.toNat) 0) a).2)) (R (bst vG (itZ s ln (IntKind.i64.wrap (j+1)) li (zW cR qx (li.S (0+j.toNat) 0) a).2)))) none))) none) none) (K (.exit 1) (Apd s a)):=k_
def Aj1(LL:List LoopC)(tc:Dc->Bool)(tS:Dc->Y_)(tE:Dc->Int):Ah (Cpz LL Sc.cutR QO BD tc tS tE) lpz.C:=lpz.ok (fun _ j a=>SzP a j) k_
 (fun its x h hc=>by
  replace h:uV its=some x:=h;unfold uV at h;split at h
  ·split at h
   ·rename_i b y hp;cases h;obtain⟨hb,he⟩:=Bool.and_eq_true_iff.1 (Bool.and_eq_true_iff.1 hc).1;obtain⟨rfl,rfl⟩:=AD he;subst hb;rw[oZ hp];rfl
   ·cases h
  ·cases h)
 (fun x hc=>by
  have h:=(AD (Bool.and_eq_true_iff.1 hc).2).1;show x.2.2.1.n-1<18446744073709551616;omega)
 (fun x hc=>(AD (Bool.and_eq_true_iff.1 hc).2).2.2)
 (fun x j a hc hi hI hs=>SzP.rt hI _ _)
 (fun q x j a hc hi hI R K=>by
  obtain⟨h1,h2,_⟩:=AD (Bool.and_eq_true_iff.1 hc).2;obtain⟨xb,s,li,y⟩:=x;replace hi:j<li.n-1:=hi;replace hI:SzP a j:=hI;replace h1:li.n<=1000000:=h1;have hl:(li.S (1+j) 0).size<=100000:=h2 (1+j) (by show 1+j<li.n;omega);have e1:=(IE (li.S (1+j) 0)).1;have e2:=Yb (li.S (1+j) 0);refine(Ae5 LL Sc.cutR QO BD tc tS tE R K q s li.n ((j+1:Nat):Int) li a).trans ?_;rw[A9 (j+1),AE (j+1),show li.S (j+1) 0=li.S (1+j) 0 by rw[Nat.add_comm],Eg (j:=j+1) o_];refine Aq (A4 o_) (Aq (by simp only[A2,A3];omega) (Aq (A4 o_) ((He o_).trans ((VX o_).trans (Aq (Bool.and_eq_true_iff.2 ⟨Afm a,Ako (j:=j) hl hI o_⟩) ?_)))));rfl)
 (fun q x a hc hI R K=>by
  refine(Ae5 LL Sc.cutR QO BD tc tS tE R K q x.2.1 x.2.2.1.n ((x.2.2.1.n-1+1:Nat):Int) x.2.2.1 a).trans ?_;exact BC (AB o_) rfl)
end Go.Proofs.YtnljjjghpgdmoaaGreatDoor
namespace Go.Proofs.YtnljjjghpgdmoaaGreatDoor
open Go.Ev
def nB(n:Int):Prop:= -1000000000<=n∧n<=1000000000
structure NbX(x:Dc):Prop where
 g:x.k=2->(∀e,e<x.gv.n->∀j,j<(x.gv.R e 0).n->nB ((x.gv.R e 0).I j 0))∧∀j,j<x.aa.n->nB (x.aa.I j 0)
 s:x.k=4->(∀j,j<x.ba.n->nB (x.ba.I j 0))∧∀e,e<x.pa.n->∀c,c<3->nB (x.pa.I e c)
 c:x.k=1->∀e,e<x.ca.n->nB (x.ca.I e 0)∧(∀j,j<(x.ca.R e 1).n->nB ((x.ca.R e 1).I j 0))∧∀j,j<(x.ca.R e 2).n->nB ((x.ca.R e 2).I j 0)
 r:x.k=3->nB x.rr∧(∀e,e<x.fv.n->∀j,j<(x.fv.R e 0).n->nB ((x.fv.R e 0).I j 0))∧(∀j,j<x.lr.n->nB (x.lr.I j 0))∧nB x.ld∧∀j,j<x.lp.n->nB (x.lp.I j 0)
def Agr{l:Int}{p q:Row}(h:Ky l p q=0):nB l∧(∀j,j<p.n->nB (p.I j 0))∧∀j,j<q.n->nB (q.I j 0):=by
 obtain⟨l1,l2⟩:=LQ h;unfold Ky at h;obtain⟨_,h⟩:=bz d_ h;obtain⟨_,h⟩:=bz d_ h;obtain⟨_,h⟩:=bz d_ h;obtain⟨a4,h⟩:=bz d_ h;obtain⟨a5,h⟩:=bz d_ h;obtain⟨a6,h⟩:=bz d_ h;obtain⟨a7,h⟩:=bz d_ h;obtain⟨a8,h⟩:=bz d_ h;obtain⟨a9,h⟩:=bz d_ h;obtain⟨a10,_⟩:=bz d_ h;have k4:¬(p.n:Int)<2:=AO a4;have k5:(q.n:Int)=(p.n:Int)-1:=by simpa using a5
 have k6:p.I 0 0=0:=by simpa using a6
 have k7:p.I (p.n-1) 0=l:=by simpa using a7
 have k9:¬UK q<0:=AO a9;have k10:¬Ns q>12:=AO a10;have up:∀j,j+1<p.n->p.I j 0<p.I (j+1) 0:=fun j hj=>by
  unfold Aah at a8;have:=AO (IB a8 (j:=j) o_);omega
 have lo:∀j,j<p.n->0<=p.I j 0:=fun j=>by
  induction j with
  |zero=>intro _;omega
  |succ j ih=>intro hj;have:=ih o_;have:=up j hj;omega
 have hi:∀m j,j+m+1=p.n->p.I j 0<=l:=fun m=>by
  induction m with
  |zero=>intro j hj;rw[show j=p.n-1 by omega,k7];exact Int.le_refl _
  |succ m ih=>intro j hj;have:=ih (j+1) o_;have:=up j o_;omega
 refine⟨⟨o_,o_⟩,fun j hj=>?_,fun j hj=>?_⟩
 ·have:=lo j hj;have:=hi (p.n-1-j) j o_;exact⟨o_,o_⟩
 ·have:=(QH q o_).1 j hj;have:=(QK q o_).1 j hj;exact⟨o_,o_⟩
def Ao4(r:Row)(n i j:Nat):(w_ r 0 n).I i j=r.I i j:=by
 refine(Jf r 0 n i j).trans ?_;rw[AE]
def Aef{x:Dc}(h:ckE vB x=0):NbX x:=by
 have v:=SN h;refine⟨fun e=>?_,fun e=>?_,fun e=>?_,fun e=>?_⟩
 ·obtain⟨h1,h2,h3⟩:=v.k2 e;obtain⟨a1,a2,a3⟩:=OA h1;obtain⟨b1,b2,b3⟩:=dU h2;refine⟨fun i hi j hj=>?_,fun j hj=>?_⟩
  ·have:=(a3 i hi).2.2 j hj;exact⟨o_,o_⟩
  ·have:=b3 j hj;exact⟨o_,o_⟩
 ·obtain⟨h1,h2,h3⟩:=v.k4 e;have f:=(Ld.Mk.ck_fit h1).1;have hn:(Ae x.ba).n=x.ba.n:=wn_;have hp:(Ae x.pa).n=x.pa.n:=wn_;refine⟨fun j hj=>?_,fun i hi c hc=>?_⟩
  ·have:=f.2 j o_;rw[NJ]at this;exact this
  ·have f1:=f.1;unfold Ld.Lg.chk at h2;cases c1:Ld.Lg.partiesB (x.ba.n:Int)
   ·rw[c1]at h2;cases h2
   ·rw[c1]at h2;replace h2:(bif ((Ae x.pa).n:Int)>200 then(4:Int)else bif Ag (Ld.Lg.bad (x.ba.n:Int) (Ae x.pa)) (Ae x.pa).n 0 then 8 else 0)=0:=h2;obtain⟨_,h2⟩:=bz d_ h2;obtain⟨g,_⟩:=bz d_ h2;have q:=IB g (j:=i) o_;unfold Ld.Lg.bad Ld.Lg.isB at q;rw[NJ,NJ,NJ]at q;simp only[AI,Bool.not_eq_false',A2,A3,decide_eq_false_iff_not]at q;obtain⟨⟨⟨⟨q1,q2⟩,_⟩,q3⟩,q4⟩:=q
    match c,hc with
    |0,_=>exact⟨o_,o_⟩
    |1,_=>exact⟨o_,o_⟩
    |2,_=>exact⟨o_,o_⟩
 ·obtain⟨h1,h2,h3⟩:=v.k1 e;obtain⟨a1,a2,a3⟩:=Adm h1;obtain⟨b1,b2⟩:=Aea a1;have hn:(Ae x.ca).n=x.ca.n:=wn_;intro i hi;obtain⟨g1,g2,g3⟩:=Agr (b2 i o_);rw[NJ]at g1;refine⟨g1,fun j hj=>?_,fun j hj=>?_⟩
  ·have:=g2 j (by rw[wn_];exact hj);rw[Ao4]at this;exact this
  ·have:=g3 j (by rw[wn_];exact hj);rw[Ao4]at this;exact this
 ·obtain⟨h1,h2,h3⟩:=v.k3 e;unfold Fv at h1;obtain⟨a1,h1⟩:=Xg h1;obtain⟨r1,h1⟩:=bz d_ h1;obtain⟨r2,_⟩:=bz d_ h1;have r3:=AO r1;have r4:=AO r2;obtain⟨b1,b2,b3⟩:=LJ a1;have hn:(Ae x.fv).n=x.fv.n:=wn_;unfold LM at h2;obtain⟨_,h2⟩:=Xg h2;obtain⟨c1,h2⟩:=Xg h2;obtain⟨c2,h2⟩:=bz d_ h2;obtain⟨c3,h2⟩:=bz d_ h2;obtain⟨c4,h2⟩:=bz d_ h2;obtain⟨c5,_⟩:=bz d_ h2;have m1:=AO c2;have m2:=AO c3;have hl:(Ae x.lp).n=x.lp.n:=wn_;unfold Kz at c1;obtain⟨_,c1⟩:=Xg c1;obtain⟨d1,_⟩:=bz d_ c1;rw[Bool.not_eq_false']at d1;obtain⟨d2,d3⟩:=Pi _ _ d1;have d4:(Ae (Ae x.fv)).n=x.fv.n:=rfl;refine⟨⟨o_,o_⟩,fun i hi j hj=>?_,fun j hj=>?_,⟨o_,o_⟩,fun j hj=>?_⟩
  ·have g:=(b3 i o_).2;unfold Ib at g;have q:=IB g (j:=j) hj;unfold RV at q;simp only[AI,decide_eq_false_iff_not]at q;obtain⟨q1,q2⟩:=q;replace q1:¬(x.fv.R i 0).I j 0<0:=q1;replace q2:¬(x.fv.R i 0).I j 0>1000000:=q2;exact⟨o_,o_⟩
  ·have e1:(Ae (Ae (Ae x.lr))).n=x.lr.n:=rfl;have g:=d3 j o_;rw[NJ,NJ,NJ]at g;exact⟨o_,o_⟩
  ·have hr:=(IZ (stop:=fun j (_:Int)=>Ia x.ld ((Ae x.lp).I j 0)) (nx:=fun j a=>a+(Ae x.lp).I j 0) (p:=fun j=>Ia x.ld ((Ae x.lp).I j 0)) (fun _ _=>rfl) (Ae x.lp).n 0 0).1;have hr2:Ag (fun j=>Ia x.ld ((Ae x.lp).I j 0)) (Ae x.lp).n 0=false:=hr.symm.trans c5;have q:=IB hr2 (j:=j) o_;rw[NJ]at q;unfold Ia at q;simp only[AI,decide_eq_false_iff_not]at q;obtain⟨q1,q2⟩:=q;exact⟨o_,o_⟩
open Go.Lib Go.RowKit
def OL(l:List UInt8):Prop:=(∀c∈l,c≠10)∧GdL l
def Gx{word:Y_}(hw:∀c∈Ad word,c≠32∧c≠10){x:Nat->Int}{n:Nat}(hx:∀j,j<n->nB (x j)):OL (Ad word++BI x n):=
 ⟨Aia (fun c hc=>(hw c hc).2) x n,Ajt (fun c hc=>(hw c hc).1) fun j hj=>hx j hj⟩
def vS{word:Y_}(hw:∀c∈Ad word,c≠32∧c≠10)(h:Ad word=Ad sPiece∨Ad word=Ad sWorth){x:Nat->Int×Int}{n:Nat}:OL (Ad word++FO x n):=
 ⟨Ajl (fun c hc=>(hw c hc).2) x n,Aji (fun c hc=>(hw c hc).1) h⟩
def FX{a b:List (List UInt8)}(h1:∀l∈a,OL l)(h2:∀l∈b,OL l):∀l∈a++b,OL l:=fun l hl=>by
 rcases List.mem_append.1 hl with h|h
 ·exact h1 l h
 ·exact h2 l h
def Hw{m:List UInt8}(h:OL m):∀l∈[m],OL l:=fun l hl=>by
 rw[List.mem_singleton.1 hl];exact h
def Me{n:Nat}{f:Nat->List UInt8}(h:∀e,e<n->OL (f e)):∀l∈(List.range n).map f,OL l:=fun l hl=>by
 obtain⟨e,he,rfl⟩:=List.mem_map.1 hl;exact h e (List.mem_range.1 he)
def Ajf{cl:Int}{un dn:Nat}{U Dv:Nat->Int}(h1:nB cl)(h2:∀j,j<un->nB (U j))(h3:∀j,j<dn->nB (Dv j)){j:Nat}(hj:j<1+un+dn):nB (J4 cl un U Dv j):=by
 unfold J4;split
 ·exact h1
 ·split
  ·exact h2 _ o_
  ·exact h3 _ o_
def An9{x:Dc}(hx:DcOk x):nB (x.cl+x.pc):=by
 have:=hx.pc;have:=hx.cl;exact⟨o_,o_⟩
def bP{x:Dc}(hx:DcOk x)(h:ckE vB x=0):∃hd k ls,EH hd=k∧(∀c∈Ad hd,c≠10)∧GZ x=Ad hd++[10]++IA ls∧∀l∈ls,OL l:=by
 have v:=SN h;have b:=Aef h;have hc:OL (Ad sClaims++BI (fun _=>x.cl+x.pc) 1):=Gx d_ fun _ _=>An9 hx;rcases v.k with e|e|e|e
 ·have et:GZ x=ckT x:=by unfold GZ;rw[e];rfl
  refine⟨BM 0,1,(((List.range x.ca.n).map (fun e=>Ad sCake++BI (J4 (IL x.ca e) (x.ca.R e 1).n (xO x.ca 1 e) (xO x.ca 2 e)) (1+(x.ca.R e 1).n+(x.ca.R e 2).n))++(List.range x.pi.n).map (fun e=>Ad sPiece++FO (Jl (sO x.pi e)) (2*(x.pi.R e 0).n)))++(List.range x.wo.n).map (fun e=>Ad sWorth++FO (qO x.wo e) (x.wo.R e 0).n))++[Ad sClaims++BI (fun _=>x.cl+x.pc) 1],Aqd,d10 sCake d_,?_,?_⟩
  ·rw[et,DK,DK,DK,Ez,<-Py sCake (fun e=>J4 (IL x.ca e) (x.ca.R e 1).n (xO x.ca 1 e) (xO x.ca 2 e)) (fun e=>1+(x.ca.R e 1).n+(x.ca.R e 2).n),<-VH sPiece (fun e=>Jl (sO x.pi e)) (fun e=>2*(x.pi.R e 0).n),<-VH sWorth (qO x.wo) (fun e=>(x.wo.R e 0).n),<-Aqe];unfold ckT xW dvT Q8;simp only[List.append_assoc]
  ·refine FX (FX (FX (Me fun i hi=>?_) (Me fun i hi=>vS d_ (.inl rfl))) (Me fun i hi=>vS d_ (.inr rfl))) (Hw hc);obtain⟨g1,g2,g3⟩:=b.c e i hi;exact Gx d_ fun j hj=>Ajf (by rw[Ja hi];exact g1) (fun j hj=>by rw[Zf hi hj];exact g2 j hj) (fun j hj=>by rw[Zf hi hj];exact g3 j hj) hj
 ·have et:GZ x=gdT x:=by unfold GZ;rw[e];rfl
  refine⟨BM 1,2,((List.range x.gv.n).map (fun e=>Ad sValues++BI (YS x.gv e) (x.gv.R e 0).n)++[Ad sGive++BI (IL x.aa) x.aa.n])++[Ad sClaims++BI (fun _=>x.cl+x.pc) 1],Aq8,d10 sGoods d_,?_,?_⟩
  ·rw[et,DK,DK,Ez,Ez,<-Py,<-Aqh];unfold gdT goT Q8;simp only[List.append_assoc]
  ·obtain⟨g1,g2⟩:=b.g e;exact FX (FX (Me fun i hi=>Gx d_ fun j hj=>by rw[VE hi hj];exact g1 i hi j hj) (Hw (Gx d_ fun j hj=>by rw[Ja hj];exact g2 j hj))) (Hw hc)
 ·have et:GZ x=rnT x:=by unfold GZ;rw[e];rfl
  refine⟨BM 2,3,((([Ad sRent++BI (fun _=>x.rr) 1]++(List.range x.fv.n).map (fun e=>Ad sValues++BI (YS x.fv e) (x.fv.R e 0).n))++[Ad sRooms++BI (IL x.lr) x.lr.n])++[Ad sPrices++BI (bG x.ld (IL x.lp)) (1+x.lp.n)])++[Ad sClaims++BI (fun _=>x.cl+x.pc) 1],Ara,d10 sRent d_,?_,?_⟩
  ·rw[et,DK,DK,DK,DK,Ez,Ez,Ez,Ez,<-Py,<-Ar0];unfold rnT yB Q8;simp only[List.append_assoc]
  ·obtain⟨g1,g2,g3,g4,g5⟩:=b.r e;refine FX (FX (FX (FX (Hw (Gx d_ fun _ _=>g1)) (Me fun i hi=>Gx d_ fun j hj=>by rw[VE hi hj];exact g2 i hi j hj)) (Hw (Gx d_ fun j hj=>by rw[Ja hj];exact g3 j hj))) (Hw (Gx d_ fun j hj=>?_))) (Hw hc);unfold bG;split
   ·exact g4
   ·rw[Ja o_];exact g5 _ o_
 ·have et:GZ x=stT x:=by unfold GZ;rw[e];rfl
  refine⟨BM 3,4,([Ad sBalances++BI (IL x.ba) x.ba.n]++(List.range x.pa.n).map (fun e=>Ad sPay++BI (pOf x.pa e) 3))++[Ad sClaims++BI (fun _=>x.cl+x.pc) 1],Ars,d10 sSettle d_,?_,?_⟩
  ·rw[et,DK,DK,Ez,Ez,<-Py sPay (pOf x.pa) (fun _=>3),<-Aqy];unfold stT gW Q8;simp only[List.append_assoc]
  ·obtain⟨g1,g2⟩:=b.s e;exact FX (FX (Hw (Gx d_ fun j hj=>by rw[Ja hj];exact g1 j hj)) (Me fun i hi=>Gx d_ fun j hj=>by rw[jI hi hj];exact g2 i hi j hj)) (Hw hc)
def zL(s:Y_):Row:=Sc.cutR (s.extract 0 (s.size-1)) 10
def ypR(s:Y_):Bool×Nat×Px:=Bf (aF (zL s)) (Xr (zL s)) ((zL s).n-1) 0 (Zn (EH ((zL s).S 0 0)))
def ypS(s:Y_):Bool:=(ypR s).1
def UJ(s:Y_):Px:=(ypR s).2.2
def VQ(s:Y_):Bool:=decide (60000<s.size)||(decide (s.size=0)||s.data.getD (s.size-1) 0 !=10)
def ypK(s:Y_):Bool:= !VQ s&&(!ypS s&&(DY (EG (UJ s))==0&&(NI (EG (UJ s))).toList==s.toList))
def Y1{R:Row}{l:List (List UInt8)}(h:(strs R R.n).map Ad=l):R.n=l.length∧∀i (hi:i<l.length),R.S i 0=txt l[i]:=by
 subst h;refine⟨by simp[strs],fun i hi=>?_⟩;simp[strs,txt_by]
def Aoh{s:Y_}{p:List UInt8}{ps:List (List UInt8)}(h:Ln.pieces 10 (Ad (s.extract 0 (s.size-1)))=p::ps):(zL s).n=ps.length+1∧(zL s).S 0 0=txt p∧∀i (hi:i<ps.length),(zL s).S (1+(0+i)) 0=txt ps[i]:=by
 obtain⟨h1,h2⟩:=Y1 ((Sc.cut_pieces (s.extract 0 (s.size-1)) 10).trans h);refine⟨h1,h2 0 y_,fun i hi=>?_⟩;have:=h2 (i+1) z_;rw[show 1+(0+i)=i+1 by omega];exact this
def yQ{s:Y_}(h0:0<s.size)(h:s.data.getD (s.size-1) 0=10):Ad s=Ad (s.extract 0 (s.size-1))++[10]:=by
 rw[Sc.by_ext,List.drop_zero];have e:=List.take_append_drop (s.size-1) (Ad s);have hd:(Ad s).drop (s.size-1+1)=[]:=List.drop_eq_nil_of_le (by
  have:(Ad s).length=s.size:=rfl;omega)
 rw[Sc.drop_c (show s.size-1<s.size by omega),h,hd]at e;exact e.symm
def Aa5{m:List UInt8}:0<(txt (m++[10])).size∧(txt (m++[10])).data.getD ((txt (m++[10])).size-1) 0=10∧Ad ((txt (m++[10])).extract 0 ((txt (m++[10])).size-1))=m:=by
 have hs:(txt (m++[10])).size=m.length+1:=by rw[txt_size,AG];rfl
 refine⟨o_,?_,?_⟩
 ·have e:=Sc.drop_c (x:=txt (m++[10])) (j:=(txt (m++[10])).size-1) o_;rw[CB,hs,show m.length+1-1=m.length by omega,List.drop_append_of_le_length (AC _),List.drop_length,List.nil_append]at e;rw[hs,show m.length+1-1=m.length by omega];injection e with e1 _;exact e1.symm
 ·rw[Sc.by_ext,List.drop_zero,CB,hs,show m.length+1-1=m.length by omega,List.take_append_of_le_length (AC _),List.take_length]
def Oo(hd:List UInt8)(ls:List (List UInt8)):(hd++(ls.map ((10:UInt8):: ·)).flatten)++[10]=hd++[10]++IA ls:=by
 rw[List.append_assoc,YE];simp
def yx{s:Y_}(hg:VQ s=false)(hs:ypS s=false):xpS s=false∧MW s=UJ s:=by
 unfold VQ at hg;simp only[AI,decide_eq_false_iff_not]at hg;obtain⟨_,h0,h1⟩:=hg;have h1:s.data.getD (s.size-1) 0=10:=by simpa using h1
 obtain⟨p,ps,e1,e2,e3⟩:=IX 10 (Ad (s.extract 0 (s.size-1)));obtain⟨z1,z2,z3⟩:=Aoh e1;have eR:ypR s=Bf (aF (zL s)) (Xr (zL s)) ps.length 0 (Zn (EH (txt p))):=by unfold ypR;rw[z1,z2];rfl
 have hr:=VR (L:=zL s) ps 0 (Zn (EH (txt p))) z3;rw[<-eR]at hr;have hl:=(hr.1 hs).rd fun l hl=>e3 l (List.mem_cons_of_mem _ hl);have es:s=txt (Ad (txt p)++[10]++IA ps):=by
  rw[CB,<-Oo,<-e2,<-yQ o_ h1,txt_by]
 have hb:=X4 (hd:=txt p) rfl (by rw[CB];exact e3 p (List.mem_cons_self ..)) hl;rw[<-es]at hb;exact hb
def xy{s:Y_}(h:UU s=true):VQ s=false∧ypS s=false∧UJ s=MW s:=by
 have hk:=h;unfold UU at hk;simp only[A2,Bool.not_eq_true',decide_eq_false_iff_not]at hk;obtain⟨hz,hS,_⟩:=hk;obtain⟨f1,f2,f3,f4⟩:=Ani h;have ho:DcOk (TD s):=by rw[f1];exact Tu o_
 have hx:=ho.al (AlDc.can _);obtain⟨hd,k,ls,l1,l2,l3,l4⟩:=bP hx f4;have hz3:=(Aox f2).2.2;have es:s=txt (Ad hd++[10]++IA ls):=by
  rw[<-l3,<-hz3];exact f3.symm
 have e:Ad hd++[10]++IA ls=Ad hd++10::IA ls:=y_;obtain⟨-,g1,g2⟩:=Ln.sp_line (x:=Ad hd) (y:=IA ls) l2;rw[<-e,<-es]at g1 g2;have hrd:RdL (Zn k) ls (MW s):=by
  have hS':(Bf (lpl.stop (ZC s (Ln.restB s) (EH (Ln.oneB s)))) (lpl.nx (ZC s (Ln.restB s) (EH (Ln.oneB s)))) (Ln.lnN (Ln.restB s)) 0 ⟨Ln.restB s,Zn (EH (Ln.oneB s))⟩).1=false:=hS;have hk:EH (Ln.oneB s)=k:=by rw[g1,txt_by,l1]
  have:RdL (Zn (EH (Ln.oneB s))) ls (MW s):=lT (ZC s (Ln.restB s) (EH (Ln.oneB s))) ls (Zn (EH (Ln.oneB s))) (Ln.restB s) (fun l hl=>(l4 l hl).1) (by rw[g2,CB]) 0 hS';rw[hk]at this;exact this
 have hrz:=hrd.rz fun l hl=>(l4 l hl).2;have es2:s=txt ((Ad hd++(ls.map ((10:UInt8):: ·)).flatten)++[10]):=by rw[Oo];exact es
 obtain⟨b1,b2,b3⟩:=Aa5 (m:=Ad hd++(ls.map ((10:UInt8):: ·)).flatten);rw[<-es2]at b1 b2 b3;have hp:Ln.pieces 10 (Ad (s.extract 0 (s.size-1)))=Ad hd::ls:=by
  rw[b3];exact Ln.pieces_join 10 (Ad hd) ls fun q hq=>by
   rcases A8.1 hq with rfl|hq
   ·exact l2
   ·exact(l4 q hq).1
 obtain⟨z1,z2,z3⟩:=Aoh hp;have eR:ypR s=Bf (aF (zL s)) (Xr (zL s)) ls.length 0 (Zn k):=by unfold ypR;rw[z1,z2,txt_by,l1];rfl
 have hr:=(VR (L:=zL s) ls 0 (Zn k) z3).2 _ hrz;rw[<-eR]at hr;refine⟨?_,hr.1,hr.2⟩;unfold VQ;rw[b2,AB o_,AB o_];rfl
def Anw(s:Y_):ypK s=UU s∧(UU s=true->UJ s=MW s):=by
 refine⟨?_,fun h=>(xy h).2.2⟩;cases h:UU s with
 |true=>
  obtain⟨h1,h2,h3⟩:=xy h;unfold UU at h;simp only[A2]at h;unfold ypK;rw[h1,h2,h3,h.2.2.1,h.2.2.2];rfl
 |false=>
  cases h':ypK s with
  |false=>rfl
  |true=>
   have hk:=h';unfold ypK at hk;simp only[A2,Bool.not_eq_true']at hk;obtain⟨h1,h2,h3,h4⟩:=hk;obtain⟨g1,g2⟩:=yx h1 h2;have hz:¬60000<s.size:=by
    unfold VQ at h1;simp only[AI,decide_eq_false_iff_not]at h1;exact h1.1
   have:UU s=true:=by
    unfold UU;rw[g1,g2,h3,h4,AB hz];rfl
   rw[this]at h;cases h
end Go.Proofs.YtnljjjghpgdmoaaGreatDoor

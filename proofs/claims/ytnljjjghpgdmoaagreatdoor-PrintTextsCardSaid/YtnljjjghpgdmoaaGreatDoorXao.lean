/- A part of the proof of PrintTexts. No conditions. -/
import Derived.Test.YtnljjjghpgdmoaaGreatDoorXan
set_option linter.all false
namespace Go.Proofs.YtnljjjghpgdmoaaGreatDoor
open Go.Ev Go.Lib Go.RowKit
def Ce(w:List UInt8)(r:Row)(x:Px):Bool×Px:=
 bif w==Ad sPiece then(bif BP (BG r)then(evB (BL (BG r)).n,{x with pi:=Em x.pi (Ae (FP (BL (BG r))))})else(false,x))else
 bif w==Ad sWorth then(bif BP (BG r)then(true,{x with wo:=Em x.wo (Ae (BL (BG r)))})else(false,x))else
 bif !Et (BG r)then(false,x)else
 bif w==Ad sCake then(bif decide (2<=(BU (BG r)).n)&&decide ((BU (BG r)).n%2=0)then(true,{x with ca:=PH x.ca (BU (BG r))})else(false,x))else
 bif w==Ad sValues then(true,bif x.k==2 then{x with gv:=Em x.gv (Ae (BU (BG r)))}else{x with fv:=Em x.fv (Ae (BU (BG r)))})else
 bif w==Ad sGive then(true,{x with aa:=BU (BG r)})else
 bif w==Ad sRent then(bif (BU (BG r)).n=1 then(true,{x with rr:=(BU (BG r)).I 0 0})else(false,x))else
 bif w==Ad sRooms then(true,{x with lr:=BU (BG r)})else
 bif w==Ad sPrices then(bif 0<(BU (BG r)).n then(true,{x with ld:=(BU (BG r)).I 0 0,lp:=BU (BG r),lpo:=1,lpn:=(BU (BG r)).n-1})else(false,x))else
 bif w==Ad sBalances then(true,{x with ba:=BU (BG r)})else
 bif w==Ad sPay then(bif (BU (BG r)).n=3 then(true,{x with pa:=Ny x.pa (BU (BG r))})else(false,x))else
 bif w==Ad sClaims then(bif (BU (BG r)).n=1∧0<=(BU (BG r)).I 0 0∧(BU (BG r)).I 0 0<=31 then(true,bif x.k==1 then{x with pc:=IntKind.u8.wrap ((BU (BG r)).I 0 0)}else{x with cl:=IntKind.u8.wrap ((BU (BG r)).I 0 0)})else(false,x))else(false,x)
def Eo(ln:Y_)(x:Px):Bool×Px:=Ce (Ad ((AY ln).S 0 0)) (AY ln) x
def QX(ln:Y_)(x:Px):Bool:=decide (ln.size<4294967281∧x.ca.n<=1000000∧x.pi.n<=1000000∧x.wo.n<=1000000∧x.gv.n<=1000000∧x.fv.n<=1000000∧x.pa.n<=1000000)&&AV (BG (AY ln))
def Am7(l:List Y_):rwW (l.getD 0 .empty) (Zx l)=Zx l:=by
 have h:(fun(e j:Nat)=>match e with|0=>l.getD 0 .empty|e+1=>(Zx l).S (e+1) j)=(fun e _=>l.getD e .empty:Nat->Nat->Y_):=by
  funext e j;cases e<;>rfl
 exact congrArg (fun f=>Row.mk l.length (fun _ _=>0) (fun _ _=>false) f (fun _ _=>.nil)) h
def dH{s:Y_}{w:Y_}(h:(AY s).S 0 0=w):rwW w (AY s)=AY s:=by
 rw[<-h];exact Am7 (CX s sSpc)
def An6(w:Y_):∀p,p∈[(70,vT AY w),(72,JY AV BU Et),(115,Ko AV BL BP)]->DenW Tryz.prog Wd p.1 p.2:=by
 intro p h;simp only[A8,A7,or_false]at h;rcases h with rfl|rfl|rfl
 ·refine den_split.less fun ds rs h=>?_;replace h:vT AY w ds=some (true,rs):=h;unfold vT at h;split at h
  ·rename_i s p;simp only[A5,A6,A2,A3]at h;obtain⟨⟨⟨h1,h2⟩,h3⟩,rfl⟩:=h;have e2:p=sSpc:=Bz _ _|>.1 h2;have e3:(AY s).S 0 0=w:=Bz _ _|>.1 h3;subst e2;show some (decide (s.size<4294967281)&&decide (1<=sSpc.size),[D.slice [.str] (AY s)])=some (true,[D.slice [.str] (rwW w (AY s))]);rw[A4 h1,show decide (1<=sSpc.size)=true by decide,dH e3];rfl
  ·cases h
 ·exact Ug
 ·exact UE
def G8(w:Y_):LH (JX AY AV BU Et AV BL BP w) Wd:=BA enter mixed (An6 w) AX
def Aka(w:Y_):LH (Cpi AY AV BU Et AV BL BP w) Wd:=BA enter mixed (An6 w) (Aw (Ajo ..) AX)
def Gs(s:Y_):1<=(AY s).n:=by
 have h1:=Ln.splS_pieces 32 s.size s (AC _);have h2:(CX s sSpc).length=(Ln.pieces 32 (Ad s)).length:=by
  rw[<-h1,List.length_map];rfl
 have h3:1<=(CX s sSpc).length:=by
  rw[h2];have:=Ln.pieces_ne 32 (Ad s);cases hp:Ln.pieces 32 (Ad s)with
  |nil=>exact absurd hp this
  |cons a b=>simp
 exact h3
def eQ{n:Nat}(h:n<=1000000):IntKind.i64.wrap (IntKind.i64.wrap ((n:Int).tdiv 2)+1)=((n/2+1:Nat):Int):=by
 have e:(n:Int).tdiv 2=((n/2:Nat):Int):=by
  rw[Int.tdiv_eq_ediv_of_nonneg o_];omega
 rw[e,show IntKind.i64.wrap ((n/2:Nat):Int)=((n/2:Nat):Int)from wrap64 o_ o_,wrap64 o_ o_];omega
def iD{n:Nat}:((n:Int).tmod 2==0)=decide (n%2=0):=by
 have e:(n:Int).tmod 2=((n%2:Nat):Int):=by
  rw[Int.tmod_eq_emod_of_nonneg o_];omega
 rw[e];by_cases h:n%2=0
 ·rw[h];rfl
 ·rw[AB h];simp;omega
def He{l:Row}{t:OD}(h:0<l.n):g0 l t=t:=Aq (by simp only[A2,A3];omega) rfl
def Gl{r:Row}{t:OD}(h:0<r.n):∀n,gn n r t=t
 |0=>rfl
 |n+1=>(He h).trans (Gl h n)
def VX{r:Row}{t:OD}(h:0<r.n):tlW r t=t:=Aq (by simp only[A2,A3];omega) (Aq (by simp only[A2,A3];omega) rfl)
def FU{s w:Y_}(hw:(AY s).S 0 0=w)(hs:s.size<4294967281)(n:Nat){T:Row->OD}:aU AY s w n T=T (AY s):=by
 refine Aq (by rw[A4 hs,hw];exact Bool.and_eq_true_iff.2 ⟨(beq_self_eq_true sSpc.toList:(sSpc.toList==sSpc.toList)=true),beq_self_eq_true _⟩) ?_;have hn:0<(AY s).n:=Gs s;rw[dH hw,Gl hn,VX hn]
def Iy{s:Y_}{x:Px}(h:QX s x=true):AV (BG (AY s))=true∧s.size<4294967281∧x.ca.n<=1000000∧x.pi.n<=1000000∧x.wo.n<=1000000∧x.gv.n<=1000000∧x.fv.n<=1000000∧x.pa.n<=1000000:=by
 obtain⟨h1,h2⟩:=Bool.and_eq_true_iff.1 h;exact⟨h2,AD h1⟩
def Xp(J:Value->St->OD)(r:Bool×Px):OD:=kR J r.1 r.2
def G9{J:Value->St->OD}{t:Row}{x:Px}{r:Bool×Px}{f:Row->(Bool->Px->OD)->OD}(cz:AV t=true)(hf:Et t=false->r=(false,x))(ht:Et t=true->(BU t).n<=1000000->f (BU t) (kR J)=Xp J r):J7 AV BU Et J x t f=Xp J r:=by
 refine Aq cz ?_;cases hB:Et t
 ·rw[hf hB];exact Aq rfl rfl
 ·exact BC rfl (ht hB (Nat.le_trans (Aew t) (JK cz).1))
section
variable{s:Y_}{x:Px}
def yP(hw:(AY s).S 0 0=sGive)(hc:QX s x=true)(J:Value->St->OD):NC (JX AY AV BU Et AV BL BP sGive) J s x=Xp J (Eo s x):=by
 obtain⟨cz,z0,z1,z2,z3,z4,z5,z6⟩:=Iy hc;refine(Ao1 AY AV BU Et AV BL BP J s x).trans ((FU hw z0 2).trans ?_);have hn:0<(AY s).n:=Gs s;rw[show Eo s x=Ce (Ad sGive) (AY s) x by unfold Eo;rw[hw]];generalize AY s=r at*
 refine G9 cz (fun h=>by unfold Ce;rw[h];rfl) fun hB hN=>?_;rw[show Ce (Ad sGive) r x=(true,{x with aa:=BU (BG r)}) by unfold Ce;rw[hB];rfl];generalize BU (BG r)=l at*
 exact Gl hn 4
def vW(hw:(AY s).S 0 0=sRooms)(hc:QX s x=true)(J:Value->St->OD):NC (JX AY AV BU Et AV BL BP sRooms) J s x=Xp J (Eo s x):=by
 obtain⟨cz,z0,z1,z2,z3,z4,z5,z6⟩:=Iy hc;refine(Ahq AY AV BU Et AV BL BP J s x).trans ((FU hw z0 2).trans ?_);have hn:0<(AY s).n:=Gs s;rw[show Eo s x=Ce (Ad sRooms) (AY s) x by unfold Eo;rw[hw]];generalize AY s=r at*
 refine G9 cz (fun h=>by unfold Ce;rw[h];rfl) fun hB hN=>?_;rw[show Ce (Ad sRooms) r x=(true,{x with lr:=BU (BG r)}) by unfold Ce;rw[hB];rfl];generalize BU (BG r)=l at*
 exact Gl hn 6
def U2(hw:(AY s).S 0 0=sBalances)(hc:QX s x=true)(J:Value->St->OD):NC (JX AY AV BU Et AV BL BP sBalances) J s x=Xp J (Eo s x):=by
 obtain⟨cz,z0,z1,z2,z3,z4,z5,z6⟩:=Iy hc;refine(Zm AY AV BU Et AV BL BP J s x).trans ((FU hw z0 2).trans ?_);have hn:0<(AY s).n:=Gs s;rw[show Eo s x=Ce (Ad sBalances) (AY s) x by unfold Eo;rw[hw]];generalize AY s=r at*
 refine G9 cz (fun h=>by unfold Ce;rw[h];rfl) fun hB hN=>?_;rw[show Ce (Ad sBalances) r x=(true,{x with ba:=BU (BG r)}) by unfold Ce;rw[hB];rfl];generalize BU (BG r)=l at*
 exact Gl hn 8
def ZW(hw:(AY s).S 0 0=sValues)(hc:QX s x=true)(J:Value->St->OD):NC (JX AY AV BU Et AV BL BP sValues) J s x=Xp J (Eo s x):=by
 obtain⟨cz,z0,z1,z2,z3,z4,z5,z6⟩:=Iy hc;refine(yG AY AV BU Et AV BL BP J s x).trans ((FU hw z0 2).trans ?_);have hn:0<(AY s).n:=Gs s;rw[show Eo s x=Ce (Ad sValues) (AY s) x by unfold Eo;rw[hw]];generalize AY s=r at*
 refine G9 cz (fun h=>by unfold Ce;rw[h];rfl) fun hB hN=>?_;rw[show Ce (Ad sValues) r x=(true,bif x.k==2 then{x with gv:=Em x.gv (Ae (BU (BG r)))}else{x with fv:=Em x.fv (Ae (BU (BG r)))}) by unfold Ce;rw[hB];rfl];generalize BU (BG r)=l at*
 rw[Gl hn];cases hk:x.k==2
 ·exact BC rfl ((He hn).trans (Aq (A4 o_) rfl))
 ·exact Aq rfl (Aq (A4 o_) rfl)
def Acn(hw:(AY s).S 0 0=sRent)(hc:QX s x=true)(J:Value->St->OD):NC (JX AY AV BU Et AV BL BP sRent) J s x=Xp J (Eo s x):=by
 obtain⟨cz,z0,z1,z2,z3,z4,z5,z6⟩:=Iy hc;refine(Apw AY AV BU Et AV BL BP J s x).trans ((FU hw z0 2).trans ?_);have hn:0<(AY s).n:=Gs s;rw[show Eo s x=Ce (Ad sRent) (AY s) x by unfold Eo;rw[hw]];generalize AY s=r at*
 refine G9 cz (fun h=>by unfold Ce;rw[h];rfl) fun hB hN=>?_;rw[show Ce (Ad sRent) r x=(bif (BU (BG r)).n=1 then(true,{x with rr:=(BU (BG r)).I 0 0})else(false,x)) by unfold Ce;rw[hB];rfl];generalize BU (BG r)=l at*
 rw[Gl hn,Gl hn];by_cases hk:l.n=1
 ·rw[A4 hk];exact Aq (by rw[hk];rfl) (He o_)
 ·rw[AB hk];exact BC z_ rfl
def ZO(hw:(AY s).S 0 0=sPrices)(hc:QX s x=true)(J:Value->St->OD):NC (JX AY AV BU Et AV BL BP sPrices) J s x=Xp J (Eo s x):=by
 obtain⟨cz,z0,z1,z2,z3,z4,z5,z6⟩:=Iy hc;refine(Ac5 AY AV BU Et AV BL BP J s x).trans ((FU hw z0 2).trans ?_);have hn:0<(AY s).n:=Gs s;rw[show Eo s x=Ce (Ad sPrices) (AY s) x by unfold Eo;rw[hw]];generalize AY s=r at*
 refine G9 cz (fun h=>by unfold Ce;rw[h];rfl) fun hB hN=>?_;rw[show Ce (Ad sPrices) r x=(bif 0<(BU (BG r)).n then(true,{x with ld:=(BU (BG r)).I 0 0,lp:=BU (BG r),lpo:=1,lpn:=(BU (BG r)).n-1})else(false,x)) by unfold Ce;rw[hB];rfl];generalize BU (BG r)=l at*
 rw[Gl hn,Gl hn];by_cases hk:0<l.n
 ·rw[A4 hk];exact Aq (A4 o_) ((He hk).trans (Aq (by simp only[A2,A3];omega) (Aq (by simp only[A2,A3];omega) rfl)))
 ·rw[AB hk];exact BC (AB o_) rfl
def Ajr(hw:(AY s).S 0 0=sPay)(hc:QX s x=true)(J:Value->St->OD):NC (JX AY AV BU Et AV BL BP sPay) J s x=Xp J (Eo s x):=by
 obtain⟨cz,z0,z1,z2,z3,z4,z5,z6⟩:=Iy hc;refine(Aqr AY AV BU Et AV BL BP J s x).trans ((FU hw z0 2).trans ?_);have hn:0<(AY s).n:=Gs s;rw[show Eo s x=Ce (Ad sPay) (AY s) x by unfold Eo;rw[hw]];generalize AY s=r at*
 refine G9 cz (fun h=>by unfold Ce;rw[h];rfl) fun hB hN=>?_;rw[show Ce (Ad sPay) r x=(bif (BU (BG r)).n=3 then(true,{x with pa:=Ny x.pa (BU (BG r))})else(false,x)) by unfold Ce;rw[hB];rfl];generalize BU (BG r)=l at*
 rw[Gl hn,Gl hn];by_cases hk:l.n=3
 ·rw[A4 hk];exact Aq (by rw[hk];rfl) ((He o_).trans (Aq (by simp only[A2,A3];omega) (Aq (by simp only[A2,A3];omega) (Aq (A4 o_) rfl))))
 ·rw[AB hk];exact BC z_ rfl
def ZK(hw:(AY s).S 0 0=sClaims)(hc:QX s x=true)(J:Value->St->OD):NC (JX AY AV BU Et AV BL BP sClaims) J s x=Xp J (Eo s x):=by
 obtain⟨cz,z0,z1,z2,z3,z4,z5,z6⟩:=Iy hc;refine(Aav AY AV BU Et AV BL BP J s x).trans ((FU hw z0 2).trans ?_);have hn:0<(AY s).n:=Gs s;rw[show Eo s x=Ce (Ad sClaims) (AY s) x by unfold Eo;rw[hw]];generalize AY s=r at*
 refine G9 cz (fun h=>by unfold Ce;rw[h];rfl) fun hB hN=>?_;rw[show Ce (Ad sClaims) r x=(bif (BU (BG r)).n=1∧0<=(BU (BG r)).I 0 0∧(BU (BG r)).I 0 0<=31 then(true,bif x.k==1 then{x with pc:=IntKind.u8.wrap ((BU (BG r)).I 0 0)}else{x with cl:=IntKind.u8.wrap ((BU (BG r)).I 0 0)})else(false,x)) by unfold Ce;rw[hB];rfl];generalize BU (BG r)=l at*
 rw[Gl hn];by_cases hk:l.n=1
 ·have j0:0<l.n:=o_;refine Aq (by rw[hk];rfl) ((He j0).trans ?_);by_cases h0:0<=l.I 0 0
  ·refine Aq (A4 h0) ((He j0).trans ?_);by_cases h1:l.I 0 0<=31
   ·rw[A4 (⟨hk,h0,h1⟩:l.n=1∧0<=l.I 0 0∧l.I 0 0<=31)];refine Aq (A4 h1) ?_;cases x.k==1
    ·exact BC rfl (He j0)
    ·exact Aq rfl (He j0)
   ·rw[AB (fun h=>h1 h.2.2:¬(l.n=1∧0<=l.I 0 0∧l.I 0 0<=31))];exact BC (AB h1) rfl
  ·rw[AB (fun h=>h0 h.2.1:¬(l.n=1∧0<=l.I 0 0∧l.I 0 0<=31))];exact BC (AB h0) rfl
 ·rw[AB (fun h=>hk h.1:¬(l.n=1∧0<=l.I 0 0∧l.I 0 0<=31))];exact BC z_ rfl
def Abx(hw:(AY s).S 0 0=sCake)(hc:QX s x=true)(J:Value->St->OD):NC (JX AY AV BU Et AV BL BP sCake) J s x=Xp J (Eo s x):=by
 obtain⟨cz,z0,z1,z2,z3,z4,z5,z6⟩:=Iy hc;refine(Aoy AY AV BU Et AV BL BP J s x).trans ((FU hw z0 2).trans ?_);have hn:0<(AY s).n:=Gs s;rw[show Eo s x=Ce (Ad sCake) (AY s) x by unfold Eo;rw[hw]];generalize AY s=r at*
 refine G9 cz (fun h=>by unfold Ce;rw[h];rfl) fun hB hN=>?_;rw[show Ce (Ad sCake) r x=(bif decide (2<=(BU (BG r)).n)&&decide ((BU (BG r)).n%2=0)then(true,{x with ca:=PH x.ca (BU (BG r))})else(false,x)) by unfold Ce;rw[hB];rfl];generalize BU (BG r)=l at*
 rw[He hn,Gl hn,show Qd l=((l.n/2+1:Nat):Int)from eQ hN,iD];by_cases h2:2<=l.n
 ·rw[A4 h2,Bool.true_and];refine Aq (A4 o_) ?_;by_cases h3:l.n%2=0
  ·rw[A4 h3];exact Aq rfl ((He o_).trans (Aq (by simp only[A2,A3];omega) (Aq (by simp only[A2,A3];omega) (Aq (by simp only[A2,A3];omega) (Aq (by simp only[A2,A3];omega) (Aq (by simp only[A2,A3];omega) (Aq (A4 o_) rfl)))))))
  ·rw[AB h3];exact BC rfl rfl
 ·rw[AB h2,Bool.false_and];exact BC (AB o_) rfl
def dI(hw:(AY s).S 0 0=sWorth)(hc:QX s x=true)(J:Value->St->OD):NC (JX AY AV BU Et AV BL BP sWorth) J s x=Xp J (Eo s x):=by
 obtain⟨cz,z0,z1,z2,z3,z4,z5,z6⟩:=Iy hc;refine(Akq AY AV BU Et AV BL BP J s x).trans ((FU hw z0 3).trans ?_);have hn:0<(AY s).n:=Gs s;rw[show Eo s x=Ce (Ad sWorth) (AY s) x by unfold Eo;rw[hw]];generalize AY s=r at*
 refine Aq cz ?_;rw[show Ce (Ad sWorth) r x=(bif BP (BG r)then(true,{x with wo:=Em x.wo (Ae (BL (BG r)))})else(false,x))from rfl];cases BP (BG r)
 ·exact Aq rfl rfl
 ·exact BC rfl (Aq (A4 o_) rfl)
def oU(hw:(AY s).S 0 0=sPiece)(hc:QX s x=true)(J:Value->St->OD):NC (Cpi AY AV BU Et AV BL BP sPiece) J s x=Xp J (Eo s x):=by
 obtain⟨cz,z0,z1,z2,z3,z4,z5,z6⟩:=Iy hc;refine(Ahb AY AV BU Et AV BL BP J s x).trans ((FU hw z0 2).trans ?_);have hn:0<(AY s).n:=Gs s;rw[show Eo s x=Ce (Ad sPiece) (AY s) x by unfold Eo;rw[hw]];generalize AY s=r at*
 have hQ:=Nat.le_trans (show(BL (BG r)).n<=(BG r).n from Apo _) (JK cz).1;refine Aq cz ?_;rw[show Ce (Ad sPiece) r x=(bif BP (BG r)then(evB (BL (BG r)).n,{x with pi:=Em x.pi (Ae (FP (BL (BG r))))})else(false,x))from rfl];cases BP (BG r)
 ·exact Aq rfl rfl
 ·exact BC rfl (Aq (c_lrr_iff.2 ⟨rfl,rfl,rfl,rfl,rfl,rfl,rfl,rfl,rfl,hQ,rfl⟩) (Aq (A4 o_) rfl))
end
set_option maxRecDepth 100000
def Ar1:∀p,p∈[(70,bH AY),(72,JY AV BU Et),(115,Ko AV BL BP)]->DenW Tryz.prog Wd p.1 p.2:=by
 intro p h;simp only[A8,A7,or_false]at h;rcases h with rfl|rfl|rfl
 ·refine den_split.less fun ds rs h=>?_;replace h:bH AY ds=some (true,rs):=h;unfold bH at h;split at h
  ·rename_i s p;simp only[A5,A6,A2,A3]at h;obtain⟨⟨h1,h2⟩,rfl⟩:=h;have e2:p=sSpc:=Bz _ _|>.1 h2;subst e2;show some (decide (s.size<4294967281)&&decide (1<=sSpc.size),[D.slice [.str] (AY s)])=some (true,[D.slice [.str] (AY s)]);rw[A4 h1,show decide (1<=sSpc.size)=true by decide];rfl
  ·cases h
 ·exact Ug
 ·exact UE
def Amu:LH (Cno AY AV BU Et AV BL BP) Wd:=fun wb hW=>by
 have h:CxAt (AP Tryz.prog fns [(70,bH AY),(72,JY AV BU Et),(115,Ko AV BL BP)] []) wb:=(BA enter mixed Ar1 AX:LH _ Wd) wb hW;exact{enter:=h.enter,den:=h.den,mixed:=h.mixed,ext:=h.ext,inpl:=h.inpl,loop:=fun f b hb L hL=>by cases hL}
def Iw{a b:Y_}(h:(Ad a==Ad b)=false):(a.toList==b.toList)=false:=by
 rw[D6,D6];exact h
def Ir{r:Row}{w:Y_}{t:OD}(hn:0<r.n)(h:(Ad (r.S 0 0)==Ad w)=false):nW r w t=t:=(He hn).trans (BC (Iw h) rfl)
def Abc{s:Y_}{x:Px}(hPiece:(Ad ((AY s).S 0 0)==Ad sPiece)=false)(hWorth:(Ad ((AY s).S 0 0)==Ad sWorth)=false)(hCake:(Ad ((AY s).S 0 0)==Ad sCake)=false)(hValues:(Ad ((AY s).S 0 0)==Ad sValues)=false)(hGive:(Ad ((AY s).S 0 0)==Ad sGive)=false)(hRent:(Ad ((AY s).S 0 0)==Ad sRent)=false)(hRooms:(Ad ((AY s).S 0 0)==Ad sRooms)=false)(hPrices:(Ad ((AY s).S 0 0)==Ad sPrices)=false)(hBalances:(Ad ((AY s).S 0 0)==Ad sBalances)=false)(hPay:(Ad ((AY s).S 0 0)==Ad sPay)=false)(hClaims:(Ad ((AY s).S 0 0)==Ad sClaims)=false)(hc:QX s x=true)(J:Value->St->OD):NC (Cno AY AV BU Et AV BL BP) J s x=Xp J (Eo s x):=by
 obtain⟨cz,z0,_⟩:=Iy hc;have hn:0<(AY s).n:=Gs s;have hX:Eo s x=(false,x):=by
  unfold Eo Ce;rw[hPiece,hWorth,hCake,hValues,hGive,hRent,hRooms,hPrices,hBalances,hPay,hClaims];cases Et (BG (AY s))<;>rfl
 rw[hX];refine(Ap0 AY AV BU Et AV BL BP J s x).trans (Aq (by rw[A4 z0];exact(beq_self_eq_true sSpc.toList:(sSpc.toList==sSpc.toList)=true)) ?_);rw[Ir hn hPiece,Ir hn hWorth,VX hn];refine G9 cz (fun _=>rfl) fun _ _=>?_;show nW (AY s) sCake (nW (AY s) sValues (nW (AY s) sValues (nW (AY s) sGive (nW (AY s) sRent (nW (AY s) sRooms (nW (AY s) sPrices (nW (AY s) sBalances (nW (AY s) sPay (nW (AY s) sClaims (kR J false x))))))))))=_;rw[Ir hn hCake,Ir hn hValues,Ir hn hValues,Ir hn hGive,Ir hn hRent,Ir hn hRooms,Ir hn hPrices,Ir hn hBalances,Ir hn hPay,Ir hn hClaims];rfl
def Ahy:Option Value->Bool
 |some (.pointer (some ⟨0,0,some 0⟩))=>true
 |_=>false
def Aly:Option Value->Bool
 |some (.pointer (some ⟨1,0,some 0⟩))=>true
 |_=>false
def Aq1(σ:St):Bool:=σ.τ.all zI&&(σ.saved.all (fun τ=>τ.all zI))&&Ahy σ.τ[2]? &&Aly σ.τ[7]?
def p_rd:Dl:={τ:=[],saved:=[],mem:=[.box [.v (.c (.int .u8 0)),.v (.c (.slice none 0 0)),.v (.c (.slice none 0 0)),.v (.c (.int .u8 0)),.v (.c (.slice none 0 0)),.v (.c (.slice none 0 0)),.v (.c (.slice none 0 0)),.v (.c (.slice none 0 0)),.v (.c (.int .i64 0)),.v (.c (.slice none 0 0)),.v (.c (.slice none 0 0)),.v (.c (.int .i64 0)),.v (.c (.slice none 0 0)),.v (.c (.slice none 0 0)),.v (.c (.int .u8 0))],.box [.v (.int .u8),.v (.sl 2),.v (.sl 3),.v (.int .u8),.v (.sl 4),.v (.sl 5),.v (.sl 6),.v (.sl 7),.v (.int .i64),.v (.sl 8),.v (.slw 9),.v (.int .i64),.v (.sl 10),.v (.sl 11),.v (.int .u8)],.deep DV,.deep Fh,.deep Es,.deep Cc,.row Ar true,.deep Cc,.row Ar true,.row Ar true,.row Ar true,.row Ht true]}
def pxD:List It->Option (Bool×Px)
 |[.i k,.n can,.n pin,.i pc,.n won,.n gvn,.n aan,.n fvn,.i rr,.n lrn,.n lpo,.n lpn,.i ld,.n ban,.n pan,.i cl,.r ca,.r pi,.r wo,.r gv,.r aa,.r fv,.r lr,.r lp,.r ba,.r pa]=>some (decide (can=ca.n∧pin=pi.n∧won=wo.n∧gvn=gv.n∧aan=aa.n∧fvn=fv.n∧lrn=lr.n∧ban=ba.n∧pan=pa.n),⟨k,ca,pi,pc,wo,gv,aa,fv,rr,lr,lp,lpo,lpn,ld,ba,pa,cl⟩)
 |_=>none
def Al9(m:M_):Option (Bool×Px):=match Ls p_rd {τ:=[],saved:=[],mem:=m}with
 |some its=>pxD its
 |none=>none
def Aa4{m:M_}{x:Px}(h:Al9 m=some (true,x)):m=Pq x:=by
 unfold Al9 at h;split at h
 ·rename_i its hm;have e:=congrArg St.mem (Gv hm);unfold pxD at h;split at h
  ·simp only[A5,A6,A3]at h;obtain⟨⟨rfl,rfl,rfl,rfl,rfl,rfl,rfl,rfl,rfl⟩,rfl⟩:=h;exact e.symm
  ·cases h
 ·cases h
def Amg(rc:Y_->Px->Bool)(rx:Y_->Px->Bool×Px):List Value->St->Option (Bool×Value×St)
 |[.pointer (some ⟨1,0,some 0⟩),.string s],σ=>match Al9 σ.mem with
  |some (b,x)=>match Aq1 σ with
   |true=>some (b&&rc s x,.bool (rx s x).1,{σ with mem:=Pq (rx s x).2})
   |false=>none
  |none=>none
 |_,_=>none
def Aap{v:Option Value}(h:Ahy v=true):v=some bx0:=by
 unfold Ahy at h;split at h
 ·rfl
 ·cases h
def Abl{v:Option Value}(h:Aly v=true):v=some bx1:=by
 unfold Aly at h;split at h
 ·rfl
 ·cases h
def Aj6:∀wb,Wd wb->IAt Tryz.prog wb 28 (Amg QX Eo):=fun wb hW w0 hb args σ v σ1 hF a cs w ρ cargs hR hv=>by
 have hW0:=hW.later hb;unfold Amg at hF;split at hF
 ·rename_i s;split at hF
  ·rename_i b x hp;split at hF
   ·rename_i hfr;simp only[A5,A6,A2]at hF;obtain⟨⟨rfl,hc⟩,rfl,rfl⟩:=hF;have hm:=Aa4 hp;unfold Aq1 at hfr;simp only[A2]at hfr;obtain⟨⟨⟨f1,f2⟩,f3⟩,f4⟩:=hfr;have go:∀(C:Cx),C.P=Tryz.prog->CxAt C w0->(∀J:Value->St->OD,NC C J s x=Xp J (Eo s x))->
      Calls Tryz.prog 28 ⟨cargs⟩ w fun e w'=>∃cv ρ1,e=.returned cv∧Rel w0 {σ with mem:=Pq (Eo s x).2} a cs w' ρ1∧V ρ1 (Pq (Eo s x).2).length (.bool (Eo s x).1) cv:=fun C hP hC hev=>by
     have:=vU hC (mem:=Pq x) (mem1:=Pq (Eo s x).2) (v:=.bool (Eo s x).1) rfl hev hm f1 f2 (Aap f3) (Abl f4) (b0:=.box [.int .u8 0,.slice none 0 0,.slice none 0 0,.int .u8 0,.slice none 0 0,.slice none 0 0,.slice none 0 0,.slice none 0 0,i64 0,.slice none 0 0,.slice none 0 0,i64 0,.slice none 0 0,.slice none 0 0,.int .u8 0]) rfl rfl hR hv;rw[hP]at this;exact this
    cases hPiece:Ad ((AY s).S 0 0)==Ad sPiece
    case true=>exact go (Cpi AY AV BU Et AV BL BP sPiece) rfl (Aka sPiece w0 hW0) (oU (by_inj (by simpa using hPiece)) hc)
    cases hWorth:Ad ((AY s).S 0 0)==Ad sWorth
    case true=>exact go (JX AY AV BU Et AV BL BP sWorth) rfl (G8 sWorth w0 hW0) (dI (by_inj (by simpa using hWorth)) hc)
    cases hCake:Ad ((AY s).S 0 0)==Ad sCake
    case true=>exact go (JX AY AV BU Et AV BL BP sCake) rfl (G8 sCake w0 hW0) (Abx (by_inj (by simpa using hCake)) hc)
    cases hValues:Ad ((AY s).S 0 0)==Ad sValues
    case true=>exact go (JX AY AV BU Et AV BL BP sValues) rfl (G8 sValues w0 hW0) (ZW (by_inj (by simpa using hValues)) hc)
    cases hGive:Ad ((AY s).S 0 0)==Ad sGive
    case true=>exact go (JX AY AV BU Et AV BL BP sGive) rfl (G8 sGive w0 hW0) (yP (by_inj (by simpa using hGive)) hc)
    cases hRent:Ad ((AY s).S 0 0)==Ad sRent
    case true=>exact go (JX AY AV BU Et AV BL BP sRent) rfl (G8 sRent w0 hW0) (Acn (by_inj (by simpa using hRent)) hc)
    cases hRooms:Ad ((AY s).S 0 0)==Ad sRooms
    case true=>exact go (JX AY AV BU Et AV BL BP sRooms) rfl (G8 sRooms w0 hW0) (vW (by_inj (by simpa using hRooms)) hc)
    cases hPrices:Ad ((AY s).S 0 0)==Ad sPrices
    case true=>exact go (JX AY AV BU Et AV BL BP sPrices) rfl (G8 sPrices w0 hW0) (ZO (by_inj (by simpa using hPrices)) hc)
    cases hBalances:Ad ((AY s).S 0 0)==Ad sBalances
    case true=>exact go (JX AY AV BU Et AV BL BP sBalances) rfl (G8 sBalances w0 hW0) (U2 (by_inj (by simpa using hBalances)) hc)
    cases hPay:Ad ((AY s).S 0 0)==Ad sPay
    case true=>exact go (JX AY AV BU Et AV BL BP sPay) rfl (G8 sPay w0 hW0) (Ajr (by_inj (by simpa using hPay)) hc)
    cases hClaims:Ad ((AY s).S 0 0)==Ad sClaims
    case true=>exact go (JX AY AV BU Et AV BL BP sClaims) rfl (G8 sClaims w0 hW0) (ZK (by_inj (by simpa using hClaims)) hc)
    exact go (Cno AY AV BU Et AV BL BP) rfl (Amu w0 hW0) (Abc hPiece hWorth hCake hValues hGive hRent hRooms hPrices hBalances hPay hClaims hc)
   ·cases hF
  ·cases hF
 ·cases hF
def Ak8(o r:Y_->Y_):FD
 |[.v (.string s),.v (.string p)]=>some (decide (s.size<4294967281)&&(p.toList==sNl.toList),[.v (.string (o s)),.v (.string (r s)),.v (.bool (Lib.cut (Ad s) (Ad p)).2.2)])
 |_=>none
structure Pa where
 rest:Y_
 p:Px
def Ao0(s:Y_)(p:Px):St:=⟨[.string s]++us 1++[bx0,i64 12]++us 3++[bx1]++us 58,[[]],Pq p⟩
def An1(s:Y_)(p:Px):St:=⟨[.string s]++us 1++[bx0]++us 4++[bx1]++us 58,[[]],Pq p⟩
def SzP(p:Px)(j:Nat):Prop:=p.ca.n<=j∧p.pi.n<=j∧p.wo.n<=j∧p.gv.n<=j∧p.fv.n<=j∧p.pa.n<=j
instance(p:Px)(j:Nat):Decidable (SzP p j):=by unfold SzP;infer_instance
def SzP.rd{p:Px}{j:Nat}(h:SzP p j)(w:List UInt8)(r:Row):SzP (Ce w r p).2 (j+1):=by
 obtain⟨h1,h2,h3,h4,h5,h6⟩:=h;have g1:p.ca.n<=j+1:=o_;have g2:p.pi.n<=j+1:=o_;have g3:p.wo.n<=j+1:=o_;have g4:p.gv.n<=j+1:=o_;have g5:p.fv.n<=j+1:=o_;have g6:p.pa.n<=j+1:=o_;have same:SzP p (j+1):=⟨g1,g2,g3,g4,g5,g6⟩;have bc:∀(b:Bool)(x z:Bool×Px),SzP x.2 (j+1)->SzP z.2 (j+1)->SzP (bif b then x else z).2 (j+1):=fun b x z hx hz=>by cases b<;>assumption
 have bp:∀(b:Bool)(x z:Px),SzP x (j+1)->SzP z (j+1)->SzP (bif b then x else z) (j+1):=fun b x z hx hz=>by cases b<;>assumption
 unfold Ce;refine bc _ _ _ (bc _ _ _ ⟨g1,Nat.succ_le_succ h2,g3,g4,g5,g6⟩ same) (bc _ _ _ (bc _ _ _ ⟨g1,g2,Nat.succ_le_succ h3,g4,g5,g6⟩ same) (bc _ _ _ same (bc _ _ _ (bc _ _ _ ⟨Nat.succ_le_succ h1,g2,g3,g4,g5,g6⟩ same)
  (bc _ _ _ (bp _ _ _ ⟨g1,g2,g3,Nat.succ_le_succ h4,g5,g6⟩ ⟨g1,g2,g3,g4,Nat.succ_le_succ h5,g6⟩) (bc _ _ _ same (bc _ _ _ (bc _ _ _ same same) (bc _ _ _ same (bc _ _ _ (bc _ _ _ same same) (bc _ _ _ same (bc _ _ _ (bc _ _ _ ⟨g1,g2,g3,g4,g5,Nat.succ_le_succ h6⟩ same) (bc _ _ _ (bc _ _ _ (bp _ _ _ same same) same) same)))))))))))
def pieces_len(k:UInt8):∀l:List UInt8,(Ln.pieces k l).length<=l.length+1∧∀p∈Ln.pieces k l,p.length<=l.length
 |[]=>by
  rw[Ln.pieces_none k [] (fun c hc=>by cases hc)];exact⟨AC _,fun p hp=>by simp at hp;rw[hp];exact AC _⟩
 |c::l=>by
  obtain⟨h1,h2⟩:=pieces_len k l;by_cases hc:c=k
  ·subst hc;rw[show c::l=[]++c::l from rfl,Ln.pieces_app c [] l (fun x hx=>by cases hx)];refine⟨z_,fun p hp=>?_⟩;rcases A8.1 hp with rfl|hp
   ·simp
   ·have:=h2 p hp;simp;omega
  ·have e:Ln.pieces k (c::l)=(match Ln.pieces k l with|[]=>[[c]]|p::ps=>(c::p)::ps):=by
    rw[Ln.pieces_sp k (c::l),Ln.pieces_sp k l];have es:Ln.sp k (c::l)=(c::(Ln.sp k l).1,(Ln.sp k l).2):=by
     show(if c=k then _ else _)=_;rw[AL hc]
    rw[es]
   have hne:=Ln.pieces_ne k l;rw[e];cases hp:Ln.pieces k l with
   |nil=>exact absurd hp hne
   |cons p ps=>
    rw[hp]at h1 h2;refine⟨by simp at h1⊢;omega,fun q hq=>?_⟩;rcases A8.1 hq with rfl|hq
    ·have:=h2 p (List.mem_cons_self ..);simp;omega
    ·have:=h2 q (List.mem_cons_of_mem _ hq);simp;omega
def SS{s:Y_}(h:s.size<=100000):AV (BG (AY s))=true:=by
 have h1:=Ln.splS_pieces 32 s.size s (AC _);obtain⟨p1,p2⟩:=pieces_len 32 (Ad s);have hs:(Ad s).length=s.size:=rfl;have h2:(CX s sSpc).length=(Ln.pieces 32 (Ad s)).length:=by
  rw[<-h1,List.length_map];rfl
 have hn:(AY s).n=(CX s sSpc).length:=rfl;have ht:(BG (AY s)).n=(AY s).n-1:=wn_;refine uU o_ fun i hi=>?_;have e:(BG (AY s)).S i 0=(CX s sSpc).getD (1+i) .empty:=Ob (AY s) 1 ((AY s).n-1) i 0;rw[e];have hl:1+i<(CX s sSpc).length:=o_;have hm:(CX s sSpc).getD (1+i) .empty∈CX s sSpc:=by
  rw[List.getD_eq_getElem?_getD,AK hl];exact List.getElem_mem hl
 have h3:Ad ((CX s sSpc).getD (1+i) .empty)∈Ln.pieces 32 (Ad s):=by
  rw[<-h1];exact List.mem_map_of_mem (f:=Ad) hm
 have h4:=p2 _ h3;have h5:(Ad ((CX s sSpc).getD (1+i) .empty)).length=((CX s sSpc).getD (1+i) .empty).size:=rfl;omega
def Akh{s:Y_}{p:Px}{j:Nat}(hs:s.size<=100000)(hp:SzP p j)(hj:j<=1000000):QX s p=true:=by
 obtain⟨h1,h2,h3,h4,h5,h6⟩:=hp;exact Bool.and_eq_true_iff.2 ⟨A4 ⟨o_,o_,o_,o_,o_,o_,o_⟩,SS hs⟩
def itP(a:Px):List It:=[.i a.k,.n a.ca.n,.n a.pi.n,.i a.pc,.n a.wo.n,.n a.gv.n,.n a.aa.n,.n a.fv.n,.i a.rr,.n a.lr.n,.n a.lpo,.n a.lpn,.i a.ld,.n a.ba.n,.n a.pa.n,.i a.cl,.r a.ca,.r a.pi,.r a.wo,.r a.gv,.r a.aa,.r a.fv,.r a.lr,.r a.lp,.r a.ba,.r a.pa]
def oZ{r:List It}{x:Px}(h:pxD r=some (true,x)):r=itP x:=by
 unfold pxD at h;split at h
 ·simp only[A5,A6,A3]at h;obtain⟨⟨rfl,rfl,rfl,rfl,rfl,rfl,rfl,rfl,rfl⟩,rfl⟩:=h;rfl
 ·cases h
def eqX(a:Px):Bool:=a.ca.n=a.ca.n∧a.pi.n=a.pi.n∧a.wo.n=a.wo.n∧a.gv.n=a.gv.n∧a.aa.n=a.aa.n∧a.fv.n=a.fv.n∧a.lr.n=a.lr.n∧a.ba.n=a.ba.n∧a.pa.n=a.pa.n
def Afm(a:Px):eqX a=true:=A4 ⟨rfl,rfl,rfl,rfl,rfl,rfl,rfl,rfl,rfl⟩
def xI:Dl:={τ:=[.v .str]++pu 1++[.v (.c bx0)]++pu 2++[.v .str]++pu 1++[.v (.c bx1)]++pu 58,saved:=[[]],mem:=p_rd.mem}
abbrev A_lpl:=Bool×Y_×Y_×Px
def pJ:List It->Option A_lpl
 |.s s::.s rest::r=>match pxD r with
  |some (b,x)=>some (b,s,rest,x)
  |none=>none
 |_=>none
def lpl:RunL A_lpl Pa:=⟨8,11,[0,2,5,7,2193611276810007,137081043860007,535477160007,33471410007,125500007,33471430007,125530007,125540007,125560007,32156290007],[0,2,3,7],xI,pJ,fun x _ a=>.s x.2.1::.s a.rest::itP a.p,fun x=>Ln.lnN x.2.2.1,fun x=>x.1&&decide (x.2.2.1.size<=100000∧SzP x.2.2.2 0),fun x=>⟨x.2.2.1,x.2.2.2⟩,fun _ _ a=> !(Eo (Ln.oneB a.rest) a.p).1,fun _ _ a=>⟨Ln.restB a.rest,(Eo (Ln.oneB a.rest) a.p).2⟩,fun x _ a K=>K .ret (Ao0 x.2.1 (Eo (Ln.oneB a.rest) a.p).2),fun x a K=>K (.exit 2) (An1 x.2.1 a.p)⟩
noncomputable def Cpa(LL:List LoopC)(oB rB:Y_->Y_)(rc:Y_->Px->Bool)(rx:Y_->Px->Bool×Px)(tc:Dc->Bool)(tS:Dc->Y_)(tE:Dc->Int):Cx:=AP Tryz.prog fns [(27,Ak8 oB rB),(6,LW tc tS tE)] LL [] [(28,Amg rc rx)]
def Aeg(LL:List LoopC)(oB rB:Y_->Y_)(rc:Y_->Px->Bool)(rx:Y_->Px->Bool×Px)(tc:Dc->Bool)(tS:Dc->Y_)(tE:Dc->Int)(R:St->OD)(K:X->St->OD)(q:Nat)(s rest:Y_)(a:Px):Ak (Cpa LL oB rB rc rx tc tS tE) 8 11 q (bst xI (.s s::.s rest::itP a)) (BF lpl.lv (some lpl.lx) R K)=br (!rest.toList==ByteArray.empty.toList) (br (rest.size<4294967281&&sNl.toList==sNl.toList) (br (eqX a&&rc (oB rest) a) (br (!(rx (oB rest) a).1) (K .ret (Ao0 s (rx (oB rest) a).2)) (R (bst xI (.s s::.s (rB rest)::itP (rx (oB rest) a).2)))) none) none) (K (.exit 2) (An1 s a)):=k_
def Akp(LL:List LoopC)(tc:Dc->Bool)(tS:Dc->Y_)(tE:Dc->Int):Ah (Cpa LL Ln.oneB Ln.restB QX Eo tc tS tE) lpl.C:=lpl.ok (fun x j a=>Ln.lnN a.rest+j=Ln.lnN x.2.2.1∧a.rest.size<=x.2.2.1.size∧SzP a.p j) k_
 (fun its x h hc=>by
  replace h:pJ its=some x:=h;unfold pJ at h;split at h
  ·split at h
   ·rename_i b y hp;cases h;have hb:b=true:=(Bool.and_eq_true_iff.1 hc).1;subst hb;rw[oZ hp];rfl
   ·cases h
  ·cases h)
 (fun x hc=>by
  have h:=AD (Bool.and_eq_true_iff.1 hc).2;have:=Ln.lnN_le x.2.2.1;show Ln.lnN x.2.2.1<18446744073709551616;omega)
 (fun x hc=>⟨rfl,AC _,(AD (Bool.and_eq_true_iff.1 hc).2).2⟩)
 (fun x j a hc hi hI hs=>by
  have hi':j<Ln.lnN x.2.2.1:=hi;have hne:Ad a.rest≠[]:=fun hz=>by have:=Ln.lnN_nil hz;have:=hI.1;omega
  have e1:=Ln.lnN_rest hne;have e2:=Ln.rest_le a.rest;refine⟨?_,Nat.le_trans e2 hI.2.1,hI.2.2.rd _ _⟩;have:=hI.1;show Ln.lnN (Ln.restB a.rest)+(j+1)=_;omega)
 (fun q x j a hc hi hI R K=>by
  obtain⟨h1,_⟩:=AD (Bool.and_eq_true_iff.1 hc).2;have hi':j<Ln.lnN x.2.2.1:=hi;have hne:Ad a.rest≠[]:=fun hz=>by have:=Ln.lnN_nil hz;have:=hI.1;omega
  have hI2:a.rest.size<=x.2.2.1.size:=hI.2.1;have hln:=Ln.lnN_le x.2.2.1;refine(Aeg LL Ln.oneB Ln.restB QX Eo tc tS tE R K q x.2.1 a.rest a.p).trans ?_;have c1:(!a.rest.toList==ByteArray.empty.toList)=true:=by
   rw[D6,D6,Bool.not_eq_true'];cases hb:Ad a.rest with
   |nil=>exact absurd hb hne
   |cons c l=>rfl
  refine Aq c1 (Aq (Bool.and_eq_true_iff.2 ⟨A4 o_,(beq_self_eq_true sNl.toList:(sNl.toList==sNl.toList)=true)⟩) (Aq (Bool.and_eq_true_iff.2 ⟨Afm a.p,Akh (s:=Ln.oneB a.rest) (p:=a.p) (by have:=Ln.one_size a.rest;omega) hI.2.2 o_⟩) ?_));rfl)
 (fun q x a hc hI R K=>by
  refine(Aeg LL Ln.oneB Ln.restB QX Eo tc tS tE R K q x.2.1 a.rest a.p).trans ?_;have h0:Ln.lnN a.rest=0:=by have hh:Ln.lnN a.rest+Ln.lnN x.2.2.1=Ln.lnN x.2.2.1:=hI.1;omega
  refine BC ?_ rfl;rw[D6,D6,Ln.lnN_zero h0];rfl)
def EH(hd:Y_):Int:=BK (fun j a=>bif hd.toList==(BM j).toList then(j:Int)+1 else a) 4 0 0
def ZC(s rest:Y_)(k:Int):A_lpl:=(true,s,rest,⟨k,.nil,.nil,0,.nil,.nil,.nil,.nil,0,.nil,.nil,0,0,0,.nil,.nil,0⟩)
def xpR(s rest:Y_)(k:Int):Bool×Nat×Pa:=Bf (lpl.stop (ZC s rest k)) (lpl.nx (ZC s rest k)) (lpl.len (ZC s rest k)) 0 (lpl.ini (ZC s rest k))
def EG(p:Px):Dc:=⟨p.k,Ae p.ca,Ae p.pi,p.pc,Ae p.wo,Ae p.gv,Ae p.aa,Ae p.fv,p.rr,Ae p.lr,w_ p.lp p.lpo p.lpn,p.ld,Ae p.ba,Ae p.pa,p.cl⟩
def zR:List D:=[dZ.D,.v (i64 12)]
def xpT(tc:Dc->Bool)(tS:Dc->Y_)(tE:Dc->Int)(s:Y_)(X:Bool×Nat×Pa)(c:Bool):OD:=br (decide ((s.size:Int)>60000)) (some zR) (br (decide (s.size<4294967281)&&({data:={toList:=[10]:Array UInt8}:Y_}).toList==sNl.toList) (br c (br X.1 (some zR) (br (tc (EG X.2.2.p)) (br (tE (EG X.2.2.p) !=0) (some zR) (br (!(tS (EG X.2.2.p)).toList==s.toList) (some zR) (some [(EG X.2.2.p).D,.v (i64 0)]))) none)) none) none)
def uPa(oB rB:Y_->Y_)(rc:Y_->Px->Bool)(rx:Y_->Px->Bool×Px)(tc:Dc->Bool)(tS:Dc->Y_)(tE:Dc->Int)(s:Y_):BH (Cpa [lpk.C,lpl.C] oB rB rc rx tc tS tE) 6 8 [.v (.string s)]=xpT tc tS tE s (xpR s (rB s) (EH (oB s))) (lpl.cnd (ZC s (rB s) (EH (oB s)))):=k_
def Bd(x:Dc):Dc:=⟨x.k,I7 5 DV x.ca,I7 5 Fh x.pi,x.pc,I7 5 Es x.wo,I7 5 Cc x.gv,I7 5 Ar x.aa,I7 5 Cc x.fv,x.rr,I7 5 Ar x.lr,I7 5 Ar x.lp,x.ld,I7 5 Ar x.ba,I7 5 Ht x.pa,x.cl⟩
def uC(x:Dc):Bool:=tcG (Bd x)
def NI(x:Dc):Y_:=tsG (Bd x)
def DY(x:Dc):Int:=teG (Bd x)
def Yx:DenW Tryz.prog Wd 6 (LW uC NI DY):=den_teV.canon.less fun ds rs h=>by
 unfold LW at h;split at h
 ·rename_i d;split at h
  ·rename_i x hx;have e:=CZ hx;subst e;exact h
  ·cases h
 ·cases h
def kW:DenW Tryz.prog Wd 27 (Ak8 Ln.oneB Ln.restB):=den_cut.less fun ds rs h=>by
 unfold Ak8 at h;split at h
 ·rename_i s p;simp only[A5,A6,A2,A3]at h;obtain⟨⟨h1,h2⟩,rfl⟩:=h;have e2:p=sNl:=Bz _ _|>.1 h2;subst e2;show some (decide (s.size<4294967281),[D.v (str (Lib.cut (Ad s) (Ad sNl)).1),D.v (str (Lib.cut (Ad s) (Ad sNl)).2.1),D.v (.bool (Lib.cut (Ad s) (Ad sNl)).2.2)])=_;have hc:Lib.cut (Ad s) (Ad sNl)=((Ln.sp 10 (Ad s)).1,(Ln.sp 10 (Ad s)).2.getD [],(Ln.sp 10 (Ad s)).2.isSome):=Ln.cutN s;rw[A4 h1,hc];rfl
 ·cases h
noncomputable def CpX:Cx:=Cpa [lpk.C,lpl.C] Ln.oneB Ln.restB QX Eo uC NI DY
def Aj0:LH CpX Wd:=Pm enter mixed (Aw kW<|Aw Yx AX) (Aw (Aib ..)<|Aw (Akp ..) AX) AX (Aw Aj6 AX)
def MW(s:Y_):Px:=(xpR s (Ln.restB s) (EH (Ln.oneB s))).2.2.p
def xpS(s:Y_):Bool:=(xpR s (Ln.restB s) (EH (Ln.oneB s))).1
def UU(s:Y_):Bool:= !decide (60000<s.size)&&(!xpS s&&(DY (EG (MW s))==0&&(NI (EG (MW s))).toList==s.toList))
def yJ(s:Y_):Bool:=decide (60000<s.size)||(xpS s||uC (EG (MW s)))
def TD(s:Y_):Dc:=bif UU s then EG (MW s)else dZ
def xpE(s:Y_):Int:=bif UU s then 0 else 12
def Zr(pc:Y_->Bool)(pd:Y_->Dc)(pe:Y_->Int):FD
 |[.v (.string s)]=>some (pc s,[(pd s).D,.v (i64 (pe s))])
 |_=>none
def Aak:DenW Tryz.prog Wd 8 (Zr yJ TD xpE):=CO Aj0 fun ds rs h=>by
 unfold Zr at h;split at h
 ·rename_i s;simp only[A5,A6]at h;obtain⟨h0,rfl⟩:=h;refine(uPa Ln.oneB Ln.restB QX Eo uC NI DY s).trans ?_;unfold xpT;unfold yJ at h0;by_cases hs:60000<s.size
  ·rw[A4 (show(s.size:Int)>60000 by omega),Aa];unfold TD xpE UU;rw[A4 hs];rfl
  ·rw[AB (show¬(s.size:Int)>60000 by omega),Ac];rw[AB hs,Bool.false_or]at h0;have c2:(decide (s.size<4294967281)&&({data:={toList:=[10]:Array UInt8}:Y_}).toList==sNl.toList)=true:=Bool.and_eq_true_iff.2 ⟨A4 o_,(beq_self_eq_true sNl.toList:(sNl.toList==sNl.toList)=true)⟩;have hr:=Ln.rest_le s;have c3:lpl.cnd (ZC s (Ln.restB s) (EH (Ln.oneB s)))=true:=Bool.and_eq_true_iff.2 ⟨rfl,A4 ⟨by show(Ln.restB s).size<=100000;omega,AC _,AC _,AC _,AC _,AC _,AC _⟩⟩;rw[c2,Aa,c3,Aa];unfold TD xpE UU;rw[AB hs];change (xpS s||uC (EG (MW s)))=true at h0;show br (xpS s) _ (br (uC (EG (MW s))) (br (DY (EG (MW s)) !=0) _ (br (!(NI (EG (MW s))).toList==s.toList) _ (some [(EG (MW s)).D,.v (i64 0)]))) none)=_;cases h1:xpS s
   ·rw[h1,Bool.false_or]at h0;rw[Ac,h0,Aa];by_cases he:DY (EG (MW s))=0
    ·rw[show(DY (EG (MW s)) !=0)=false by rw[he];rfl,show(DY (EG (MW s))==0)=true by rw[he];rfl,Ac];cases(NI (EG (MW s))).toList==s.toList<;>rfl
    ·rw[show(DY (EG (MW s)) !=0)=true by simpa using he,show(DY (EG (MW s))==0)=false by simpa using he,Aa];rfl
   ·rw[Aa];rfl
 ·cases h
end Go.Proofs.YtnljjjghpgdmoaaGreatDoor
namespace Go.Proofs.YtnljjjghpgdmoaaGreatDoor.Ld.Mk
open Go.Ev
def sM(f:Nat->Int)(s:Nat):Nat->Int
 |0=>0
 |n+1=>sM f s n+if s.testBit n=true then f n else 0
def Ik{g s:Nat}(h:g&&&s=g){i:Nat}(hi:g.testBit i=true):s.testBit i=true:=by
 have:=congrArg (fun x=>x.testBit i) h;simp only[Nat.testBit_and,hi,Bool.true_and]at this;exact this
def Tz{f:Nat->Int}:∀{n:Nat},sM f 0 n=0
 |0=>rfl
 |n+1=>by unfold sM;rw[Tz (n:=n),Nat.zero_testBit];rfl
def uD{f:Nat->Int}{s h:Nat}(hs:h&&&s=h):∀{n:Nat},sM f (s^^^h) n=sM f s n-sM f h n
 |0=>rfl
 |n+1=>by
  unfold sM;rw[uD hs (n:=n),Nat.testBit_xor];cases h1:h.testBit n
  ·cases h2:s.testBit n<;>simp<;>omega
  ·rw[Ik hs h1];simp;omega
def iI{f:Nat->Int}{s t k:Nat}(h:∀i,t.testBit i=(s.testBit i&&decide (i≠k)))(hk:s.testBit k=true):∀{n:Nat},sM f s n=sM f t n+if k<n then f k else 0
 |0=>by simp[sM]
 |n+1=>by
  unfold sM;rw[iI h hk (n:=n),h n];by_cases hn:n=k
  ·subst hn;rw[hk,AL (show¬n<n by omega),AM (show n<n+1 by omega)];simp
  ·rw[A4 hn,Bool.and_true];by_cases hkn:k<n
   ·rw[AM hkn,AM (show k<n+1 by omega)];omega
   ·rw[AL hkn,AL (show¬k<n+1 by omega)];omega
def Ael{f:Nat->Int}{s:Nat}:∀{n:Nat},(∀i,i<n-> -1000000000<=f i∧f i<=1000000000)-> -1000000000*(n:Int)<=sM f s n∧sM f s n<=1000000000*(n:Int)
 |0,_=>by simp[sM]
 |n+1,h=>by
  unfold sM;have h1:=Ael (f:=f) (s:=s) (n:=n) (fun i hi=>h i o_);have h2:=h n o_;split<;>omega
def O3:∀(n s g h:Nat),g<=n->g&&&s=g->h&&&s=h->h<g->h<=(g-1)&&&s
 |0,s,g,h,hn,_,_,hlt=>by omega
 |n+1,s,g,h,hn,hg,hh,hlt=>by
  have hg2:g/2&&&s/2=g/2:=by rw[<-Nat.and_div_two,hg]
  have hh2:h/2&&&s/2=h/2:=by rw[<-Nat.and_div_two,hh]
  have ht:((g-1)&&&s)/2=(g-1)/2&&&s/2:=Nat.and_div_two;have ho:((g-1)&&&s)%2=1↔(g-1)%2=1∧s%2=1:=Nat.and_mod_two_eq_one;have hs:h%2=1->s%2=1:=fun h1=>by
   have:(h&&&s)%2=1:=by rw[hh];exact h1
   exact(Nat.and_mod_two_eq_one.1 this).2
  generalize hT:(g-1)&&&s=T at ht ho;rcases Nat.mod_two_eq_zero_or_one g with h0|h1
  ·rw[show(g-1)/2=g/2-1 by omega]at ht;have ih:=O3 n (s/2) (g/2) (h/2) o_ hg2 hh2 o_;rw[<-ht]at ih;rcases Nat.mod_two_eq_zero_or_one h with h2|h2
   ·omega
   ·have:=ho.2 ⟨o_,hs h2⟩;omega
  ·rw[show(g-1)/2=g/2 by omega,hg2]at ht;omega
def JR{s h:Nat}(h0:h≠0):s^^^h≠s:=fun he=>h0 (by
 have:=congrArg (fun x=>s^^^x) he;simp only[<-Nat.xor_assoc,Nat.xor_self,Nat.zero_xor]at this;exact this)
def U3{s:Nat}(h0:s≠0)(h1:s<2^62):s.testBit (EW s)=true∧(∀i,i<EW s->s.testBit i=false)∧∀i,(s&&&(s-1)).testBit i=(s.testBit i&&decide (i≠EW s)):=by
 have hs:s<2^64:=o_;obtain⟨m,e1,e2⟩:=Lib.ctzFrom_spec 64 s o_ hs;have hk:EW s=Lib.ctzFrom 64 s:=by unfold EW Lib.ctz;rw[AL h0]
 rw[<-hk]at e1 e2;generalize EW s=k at e1 e2⊢;have hp:0<2^k:=Nat.two_pow_pos k;have hb:∀i,s.testBit i=if i<k then false else(2*m+1).testBit (i-k):=fun i=>by
  have:=Nat.testBit_two_pow_mul_add (2*m+1) (b:=0) (i:=k) hp i;rw[Nat.add_zero,<-e1]at this;rw[this];simp
 have hs1:s-1=2^k*(2*m)+(2^k-1):=by rw[e1,Nat.mul_add,Nat.mul_one];omega
 have hb1:∀i,(s-1).testBit i=if i<k then(2^k-1).testBit i else(2*m).testBit (i-k):=fun i=>by
  rw[hs1];exact Nat.testBit_two_pow_mul_add (2*m) (b:=2^k-1) (i:=k) o_ i
 refine⟨?_,fun i hi=>?_,fun i=>?_⟩
 ·rw[hb,AL o_,Nat.sub_self,Nat.testBit_zero];exact A4 o_
 ·rw[hb,AM hi]
 ·rw[Nat.testBit_and,hb,hb1];by_cases c:i<k
  ·rw[AM c];rfl
  ·rw[AL c,AL c];by_cases c2:i=k
   ·subst c2;rw[Nat.sub_self,Nat.testBit_zero,Nat.testBit_zero,AB (show¬i≠i from fun h=>h rfl),Bool.and_false,AB (show¬2*m%2=1 by omega),Bool.and_false]
   ·obtain⟨d,hd⟩:∃d,i-k=d+1:=⟨i-k-1,o_⟩;rw[hd,Nat.testBit_succ,Nat.testBit_succ,show(2*m+1)/2=m by omega,show 2*m/2=m by omega,A4 c2,Bool.and_true,Bool.and_self]
def Gn(r:Row)(s:Nat)(x:Int):(r.setI s 0 x).I s 0=x:=by
 show(bif Nat.beq s s&&Nat.beq 0 0 then x else _)=x;rw[Nat.beq_refl];rfl
def KD{r:Row}{e j s:Nat}{x:Int}(h:e≠s):(r.setI s 0 x).I e j=r.I e j:=by
 show(bif Nat.beq e s&&Nat.beq j 0 then x else _)=_;have:Nat.beq e s=false:=by
  cases hb:Nat.beq e s
  ·rfl
  ·exact absurd (AF hb) h
 rw[this];rfl
def inn{sm:Row}{s low:Nat}:∀(n g:Nat)(ou:Row),g&&&s=g->g<n->
  (∀e j,e≠s->(Lm sm s low n g ou).I e j=ou.I e j)∧ou.I s 0<=(Lm sm s low n g ou).I s 0∧
  (∀h,h≠0->h&&&s=h->h<=g->h.testBit low=true->h≠s->sm.I h 0=0->wi (1+ou.I (s^^^h) 0)<=(Lm sm s low n g ou).I s 0)∧
  ((Lm sm s low n g ou).I s 0=ou.I s 0∨∃h,h≠0∧h&&&s=h∧h.testBit low=true∧h≠s∧sm.I h 0=0∧(Lm sm s low n g ou).I s 0=wi (1+ou.I (s^^^h) 0))
 |n+1,g,ou,hg,hn=>by
  unfold Lm;by_cases h0:g=0
  ·rw[AM h0];exact⟨fun _ _ _=>rfl,Int.le_refl _,fun h a b c=>o_,.inl rfl⟩
  ·rw[AL h0];have hle:(g-1)&&&s<=g-1:=Nat.and_le_left;have hsub:((g-1)&&&s)&&&s=(g-1)&&&s:=by rw[Nat.and_assoc,Nat.and_self]
   obtain⟨i1,i2,i3,i4⟩:=inn (sm:=sm) (s:=s) (low:=low) n ((g-1)&&&s) (aW sm s low g ou) hsub o_;have u1:∀e j,e≠s->(aW sm s low g ou).I e j=ou.I e j:=fun e j he=>by
    unfold aW;split
    ·exact KD he
    ·rfl
   have u2:ou.I s 0<=(aW sm s low g ou).I s 0:=by
    unfold aW;split
    ·rw[Gn];split<;>omega
    ·exact Int.le_refl _
   have u3:g.testBit low=true->g≠s->sm.I g 0=0->wi (1+ou.I (s^^^g) 0)<=(aW sm s low g ou).I s 0:=fun a b c=>by
    unfold aW;rw[AM ⟨a,b,c⟩,Gn];split<;>omega
   have u4:(aW sm s low g ou).I s 0=ou.I s 0∨(g.testBit low=true∧g≠s∧sm.I g 0=0∧(aW sm s low g ou).I s 0=wi (1+ou.I (s^^^g) 0)):=by
    unfold aW;split
    ·rename_i hc;rw[Gn];split
     ·exact .inr ⟨hc.1,hc.2.1,hc.2.2,rfl⟩
     ·exact .inl rfl
    ·exact .inl rfl
   refine⟨fun e j he=>(i1 e j he).trans (u1 e j he),Int.le_trans u2 i2,fun h a b c d e f=>?_,?_⟩
   ·by_cases hgh:h=g
    ·subst hgh;exact Int.le_trans (u3 d e f) i2
    ·have:=i3 h a b (O3 g s g h (AC _) hg b o_) d e f;rw[u1 _ 0 (JR a)]at this;exact this
   ·rcases i4 with h|⟨h,a,b,c,d,e,f⟩
    ·rcases u4 with h'|⟨a,b,c,d⟩
     ·exact .inl (h.trans h')
     ·exact .inr ⟨g,h0,hg,a,b,c,h.trans d⟩
    ·rw[u1 _ 0 (JR a)]at f;exact .inr ⟨h,a,b,c,d,e,f⟩
def bF(b:Row):Nat->Int:=fun i=>b.I i 0
def Sg(b:Row)(s:Nat):Int:=sM (bF b) s b.n
def Fit(b:Row):Prop:=b.n<=10∧∀i,i<b.n-> -1000000000<=b.I i 0∧b.I i 0<=1000000000
def Fit.sum{b:Row}(h:Fit b)(s:Nat): -10000000000<=Sg b s∧Sg b s<=10000000000:=by
 have h1:=h.1;have:=Ael (f:=bF b) (s:=s) (n:=b.n) h.2;unfold Sg;omega
structure Good(b:Row)(o:Nat->Int)(t:Nat):Prop where
 zero:t=0->o t=0
 neg:t≠0->Sg b t≠0->o t= -1
 pos:t≠0->Sg b t=0->1<=o t∧o t<=t
 step:t≠0->Sg b t=0->∀h,h≠0->h&&&t=h->h≠t->h.testBit (EW t)=true->Sg b h=0->1+o (t^^^h)<=o t
 att:t≠0->Sg b t=0->o t=1∨∃h,h≠0∧h&&&t=h∧h≠t∧h.testBit (EW t)=true∧Sg b h=0∧o t=1+o (t^^^h)
def Good.congr{b:Row}{o o':Nat->Int}{t:Nat}(h:Good b o t)(he:∀t',t'<=t->o' t'=o t'):Good b o' t where
 zero:=fun h0=>by rw[he t (AC _)];exact h.zero h0
 neg:=fun h0 h1=>by rw[he t (AC _)];exact h.neg h0 h1
 pos:=fun h0 h1=>by rw[he t (AC _)];exact h.pos h0 h1
 step:=fun h0 h1 g a c d e f=>by rw[he t (AC _),he _ (Md c)];exact h.step h0 h1 g a c d e f
 att:=fun h0 h1=>by
  rw[he t (AC _)];rcases h.att h0 h1 with h2|⟨g,a,c,d,e,f,k⟩
  ·exact .inl h2
  ·exact .inr ⟨g,a,c,d,e,f,by rw[he _ (Md c)];exact k⟩
def Good.bound{b:Row}{o:Nat->Int}{t:Nat}(h:Good b o t): -1<=o t∧o t<=t:=by
 by_cases h0:t=0
 ·have:=h.zero h0;omega
 ·by_cases h1:Sg b t=0
  ·have:=h.pos h0 h1;omega
  ·have:=h.neg h0 h1;omega
def kU{s h:Nat}(hs:h&&&s=h)(h0:h≠0):s^^^h<s:=by
 have:=Md hs;have:=JR (s:=s) h0;omega
def sub_lt{s h:Nat}(hs:h&&&s=h)(h0:h≠s):h<s:=by
 have:=sub_le hs;omega
def Alt{b:Row}(hf:Fit b){s:Nat}(h0:s≠0)(h1:s<2^b.n):Sg b s=Sg b (s&&&(s-1))+b.I (EW s) 0:=by
 have hf1:=hf.1;have hp:2^b.n<=2^10:=Nat.pow_le_pow_right d_ hf1;obtain⟨k1,k2,k3⟩:=U3 h0 o_;have hk:=mQ s b.n o_ h1 o_;unfold Sg;rw[iI k3 k1,AM hk];rfl
def Vl{b:Row}(hf:Fit b):∀(m s:Nat)(sm ou:Row),0<s->s+m=2^b.n->(∀t,t<s->sm.I t 0=Sg b t)->(∀t,t<s->Good b (fun t=>ou.I t 0) t)->
  ∀t,t<2^b.n->Good b (fun t=>(TC b m s sm ou).I t 0) t
 |0,s,sm,ou,h0,hs,h1,h2,t,ht=>by unfold TC;exact h2 t o_
 |m+1,s,sm,ou,h0,hs,h1,h2,t,ht=>by
  have hp:2^b.n<=2^10:=Nat.pow_le_pow_right d_ hf.1;have hsl:s<2^b.n:=o_;have hlow:s&&&(s-1)<s:=by
   have:s&&&(s-1)<=s-1:=Nat.and_le_right;omega
  have hsm:∀t,t<s+1->(xU b s sm).I t 0=Sg b t:=fun t ht=>by
   unfold xU;by_cases hts:t=s
   ·subst hts;have:=hf.sum t;rw[Gn,h1 _ hlow];rw[Alt hf o_ hsl]at this⊢;exact Vu o_ o_
   ·rw[KD hts];exact h1 t o_
  unfold TC;refine Vl hf m (s+1) _ _ o_ o_ hsm (fun t ht=>?_) t ht;have hss:(xU b s sm).I s 0=Sg b s:=hsm s o_;unfold ouU;rw[hss];by_cases hz:Sg b s=0
  ·rw[AL (fun h=>h hz)];obtain⟨i1,i2,i3,i4⟩:=inn (sm:=xU b s sm) (s:=s) (low:=EW s) (s+1) s ((ou.setI s 0 (-1)).setI s 0 1) (Nat.and_self s) o_;rw[Gn]at i2 i4;have i5:∀e,e≠s->(Lm (xU b s sm) s (EW s) (s+1) s ((ou.setI s 0 (-1)).setI s 0 1)).I e 0=ou.I e 0:=fun e he=>by
    rw[i1 e 0 he,KD he,KD he]
   by_cases hts:t=s
   ·subst hts;have hw:∀h,h≠0->h&&&t=h->wi (1+((ou.setI t 0 (-1)).setI t 0 1).I (t^^^h) 0)=1+ou.I (t^^^h) 0∧ou.I (t^^^h) 0<=((t^^^h:Nat):Int)∧t^^^h<t:=fun h a c=>by
     rw[KD (JR a),KD (JR a)];have hx:=kU c a;have hB:=(h2 _ hx).bound;exact⟨Vu o_ o_,hB.2,hx⟩
    refine⟨fun h=>o_,fun _ h=>absurd hz h,fun _ _=>⟨i2,?_⟩,fun _ _ h a c d e f=>?_,fun _ _=>?_⟩
    ·skip
     rcases i4 with h|⟨h,a,c,d,e,f,k⟩
     ·rw[h];omega
     ·obtain⟨w1,w2,w3⟩:=hw h a c;rw[w1]at k;omega
    ·skip
     have:=i3 h a c (sub_le c) e d (by rw[hsm h (by have:=sub_lt c d;omega)];exact f);rw[(hw h a c).1]at this;rw[i5 _ (JR a)];exact this
    ·skip
     rcases i4 with h|⟨h,a,c,d,e,f,k⟩
     ·exact .inl h
     ·refine .inr ⟨h,a,c,e,d,?_,?_⟩
      ·rw[<-hsm h (by have:=sub_lt c e;omega)];exact f
      ·rw[i5 _ (JR a),<-(hw h a c).1];exact k
   ·exact(h2 t o_).congr fun t' ht'=>i5 t' o_
  ·rw[AM hz];by_cases hts:t=s
   ·subst hts;exact⟨fun h=>o_,fun _ _=>Gn _ _ _,fun _ h=>absurd h hz,fun _ h=>absurd h hz,fun _ h=>absurd h hz⟩
   ·exact(h2 t o_).congr fun t' ht'=>KD o_
def mN(b:Row)(s:Nat):Int:=(F6 b).I s 0
def D5{b:Row}(hf:Fit b){t:Nat}(ht:t<2^b.n):Good b (mN b) t:=by
 have hp:0<2^b.n:=Nat.two_pow_pos _;exact Vl hf (2^b.n-1) 1 _ _ o_ o_ (fun t ht=>by
  obtain rfl:t=0:=o_;unfold Sg;rw[Tz];rfl) (fun t ht=>by
  obtain rfl:t=0:=o_;exact⟨fun _=>rfl,fun h=>absurd rfl h,fun h=>absurd rfl h,fun h=>absurd rfl h,fun h=>absurd rfl h⟩) t ht
def qA(c:Nat->Nat)(s q:Nat):Nat->Nat
 |0=>0
 |n+1=>if s.testBit n=true∧c n=q then qA c s q n|||2^n else qA c s q n
def Jg(c:Nat->Nat)(s q i:Nat):∀n,(qA c s q n).testBit i=(decide (i<n)&&(s.testBit i&&decide (c i=q)))
 |0=>by simp[qA]
 |n+1=>by
  unfold qA;by_cases hi:i=n
  ·subst hi;split
   ·rename_i h;rw[Nat.testBit_or,Nat.testBit_two_pow,h.1,A4 h.2,A4 (show i<i+1 by omega)];simp
   ·rename_i h;rw[Jg c s q i i,AB (show¬i<i by omega),Bool.false_and,A4 (show i<i+1 by omega),Bool.true_and];cases h1:s.testBit i
    ·rfl
    ·rw[AB (fun h2=>h ⟨h1,h2⟩)];rfl
  ·have e:decide (i<n+1)=decide (i<n):=by
    by_cases h:i<n
    ·rw[A4 h,A4 (show i<n+1 by omega)]
    ·rw[AB h,AB (show¬i<n+1 by omega)]
   split
   ·rw[Nat.testBit_or,Nat.testBit_two_pow,Jg c s q i n,e,AB (show¬n=i from fun h=>hi h.symm),Bool.or_false]
   ·rw[Jg c s q i n,e]
def Ql(e:Nat->Bool):Nat->Nat
 |0=>0
 |q+1=>Ql e q+if e q=true then 1 else 0
def XQ{e e':Nat->Bool}:∀{Q},(∀q,q<Q->e q=true->e' q=true)->Ql e Q<=Ql e' Q
 |0,_=>AC _
 |Q+1,h=>by
  unfold Ql;have:=XQ (Q:=Q) (fun q hq=>h q o_);have h2:=h Q o_;by_cases hc:e Q=true
  ·rw[AM hc,AM (h2 hc)];omega
  ·rw[AL hc];omega
def use(c:Nat->Nat)(s n:Nat):Nat->Bool:=fun q=>decide (qA c s q n≠0)
def Nz(b:Row)(s:Nat):Prop:=∀i,s.testBit i=(decide (i<b.n)&&decide (b.I i 0≠0))
def YU{e e':Nat->Bool}{q0:Nat}:∀{Q},(∀q,q<Q->e q=true->e' q=true)->q0<Q->e q0=false->e' q0=true->Ql e Q+1<=Ql e' Q
 |Q+1,h,hq,h1,h2=>by
  unfold Ql;by_cases hc:q0=Q
  ·subst hc;have:=XQ (Q:=q0) (fun q hq=>h q o_);rw[h1,h2,AL d_,AM rfl];omega
  ·have:=YU (Q:=Q) (fun q hq=>h q o_) o_ h1 h2;have h3:=h Q o_;by_cases hc:e Q=true
   ·rw[AM hc,AM (h3 hc)];omega
   ·rw[AL hc];omega
def P8{e:Nat->Bool}:∀{Q},Ql e Q<=Q
 |0=>AC _
 |Q+1=>by unfold Ql;have:=P8 (e:=e) (Q:=Q);split<;>omega
def pc(t n:Nat):Nat:=Ql (fun i=>t.testBit i) n
def WU{t n i:Nat}(ht:t<2^n)(hi:t.testBit i=true):i<n:=by
 by_cases h:i<n
 ·exact h
 ·rw[Nat.testBit_lt_two_pow (Nat.lt_of_lt_of_le ht (Nat.pow_le_pow_right d_ o_))]at hi;cases hi
def tN{t h n:Nat}(ht:t<2^n)(hs:h&&&t=h)(h0:h≠0):pc (t^^^h) n+1<=pc t n:=by
 obtain⟨i,hi⟩:=Nat.exists_testBit_of_ne_zero h0;have hti:=Ik hs hi;refine YU (q0:=i) (fun q _ hq=>?_) (WU ht hti) (by rw[Nat.testBit_xor,hi,hti];rfl) hti;rw[Nat.testBit_xor]at hq;cases h1:h.testBit q
 ·rw[h1,Bool.xor_false]at hq;exact hq
 ·exact Ik hs h1
def Ao6{b:Row}(hf:Fit b):∀N t,t<=N->t<2^b.n->mN b t<=(pc t b.n:Nat):=by
 intro N
 induction N with
 |zero=>
  intro t hN ht;have:=(D5 hf ht).zero o_;omega
 |succ N ih=>
  intro t hN ht;have hg:=D5 hf ht;by_cases h0:t=0
  ·have:=hg.zero h0;omega
  ·by_cases h1:Sg b t=0
   ·obtain⟨i,hi⟩:=Nat.exists_testBit_of_ne_zero h0;have h2:1<=pc t b.n:=by
     have:=tN ht (Nat.and_self t) h0;omega
    rcases hg.att h0 h1 with h|⟨h,a,c,d,e,f,k⟩
    ·omega
    ·have h3:=kU c a;have h4:=ih (t^^^h) o_ o_;have h5:=tN ht c a;omega
   ·have:=hg.neg h0 h1;omega
def ZE(m:Row)(rest low h:Nat):Prop:=h≠0∧h&&&rest=h∧h&&&low≠0∧1<=m.I h 0∧m.I (rest^^^h) 0=wi (m.I rest 0-1)
def Ul{m:Row}{rest low:Nat}:∀(n g best:Nat),g&&&rest=g->g<n->(best=0∨ZE m rest low best)->
  (bst m rest low n g best=0∨ZE m rest low (bst m rest low n g best))∧(best≠0->bst m rest low n g best≠0)∧∀h,ZE m rest low h->h<=g->bst m rest low n g best≠0
 |n+1,g,best,hg,hn,hb=>by
  unfold bst;by_cases h0:g=0
  ·rw[AM h0];exact⟨hb,id,fun h hc hl=>by have:=hc.1;omega⟩
  ·rw[AL h0];have hle:(g-1)&&&rest<=g-1:=Nat.and_le_left;have hsub:((g-1)&&&rest)&&&rest=(g-1)&&&rest:=by rw[Nat.and_assoc,Nat.and_self]
   have hu:(RI m rest low g best=0∨ZE m rest low (RI m rest low g best))∧(best≠0->RI m rest low g best≠0)∧(ZE m rest low g->RI m rest low g best≠0):=by
    unfold RI;split
    ·rename_i hc;refine⟨hb,id,fun hcg=>?_⟩;obtain⟨_,_,c3,c4,c5⟩:=hcg;rcases hc with h|h|h
     ·exact absurd h c3
     ·omega
     ·exact absurd c5 h
    ·rename_i hc;split
     ·refine⟨.inr ⟨h0,hg,fun h=>hc (.inl h),?_,Classical.not_not.1 fun h=>hc (.inr (.inr h))⟩,fun _=>h0,fun _=>h0⟩;have:¬m.I g 0<1:=fun h=>hc (.inr (.inl h));omega
     ·rename_i hbn;exact⟨hb,id,fun _ h=>hbn (.inl h)⟩
   obtain⟨u1,u2,u3⟩:=hu;obtain⟨i1,i2,i3⟩:=Ul n ((g-1)&&&rest) (RI m rest low g best) hsub o_ u1;refine⟨i1,fun h=>i2 (u2 h),fun h hc hl=>?_⟩;by_cases hgh:h=g
   ·subst hgh;exact i2 (u3 hc)
   ·exact i3 h hc (O3 g rest g h (AC _) hg hc.2.1 o_)
def Arr{r:Row}{e j:Nat}{x:Int}:(r.setI j 0 x).I e 0=if e=j then x else r.I e 0:=by
 by_cases h:e=j
 ·subst h;rw[Gn,AM rfl]
 ·rw[KD h,AL h]
def Afa(best:Nat)(group:Int):∀(m j:Nat)(o:Row),(aV best group m j o).n=o.n∧∀p,(aV best group m j o).I p 0=if j<=p∧p<j+m∧best.testBit p=true then group else o.I p 0
 |0,j,o=>⟨rfl,fun p=>by rw[AL o_];rfl⟩
 |m+1,j,o=>by
  unfold aV;obtain⟨i1,i2⟩:=Afa best group m (j+1) (if best.testBit j=true then o.setI j 0 group else o);refine⟨i1.trans (by split<;>rfl),fun p=>?_⟩;rw[i2 p];by_cases hp:p=j
  ·subst hp;rw[AL o_];by_cases hb:best.testBit p=true
   ·rw[AM hb,AM ⟨o_,o_,hb⟩,Gn]
   ·rw[AL hb,AL (fun h=>hb h.2.2)]
  ·have e1:(if best.testBit j=true then o.setI j 0 group else o).I p 0=o.I p 0:=by
    split
    ·exact KD hp
    ·rfl
   rw[e1];by_cases hc:j+1<=p∧p<j+1+m∧best.testBit p=true
   ·rw[AM hc,AM ⟨o_,o_,hc.2.2⟩]
   ·rw[AL hc,AL (fun h=>hc ⟨o_,o_,h.2.2⟩)]
def Aek(b:Row):∀(m j:Nat)(x:Nat×Row),(NE b m j x).2.n=x.2.n∧(∀i,(NE b m j x).1.testBit i=(x.1.testBit i||(decide (j<=i∧i<j+m)&&decide (b.I i 0≠0))))∧∀p,(NE b m j x).2.I p 0=if j<=p∧p<j+m then-1 else x.2.I p 0
 |0,j,x=>⟨rfl,fun i=>by rw[AB (show¬(j<=i∧i<j+0) by omega)];simp[NE],fun p=>by rw[AL o_];rfl⟩
 |m+1,j,x=>by
  unfold NE;obtain⟨i1,i2,i3⟩:=Aek b m (j+1) (rsU b j x);refine⟨i1.trans rfl,fun i=>?_,fun p=>?_⟩
  ·rw[i2 i];have hu:(rsU b j x).1.testBit i=(x.1.testBit i||(decide (i=j)&&decide (b.I i 0≠0))):=by
    unfold rsU;dsimp only;split
    ·rename_i h;rw[Nat.testBit_or,Nat.testBit_two_pow];by_cases hij:i=j
     ·subst hij;rw[A4 h,A4 rfl];rfl
     ·rw[AB hij,AB (fun h=>hij h.symm)];rfl
    ·rename_i h;by_cases hij:i=j
     ·subst hij;rw[AB h,Bool.and_false,Bool.or_false]
     ·rw[AB hij];simp
   rw[hu,Bool.or_assoc]
   congr 1
   by_cases hij:i=j
   ·subst hij;rw[A4 rfl,AB (show¬(i+1<=i∧i<i+1+m) by omega),A4 (show i<=i∧i<i+(m+1) by omega)];simp
   ·rw[AB hij];by_cases hc:j+1<=i∧i<j+1+m
    ·rw[A4 hc,A4 (show j<=i∧i<j+(m+1) by omega)];simp
    ·rw[AB hc,AB (show¬(j<=i∧i<j+(m+1)) by omega)];simp
  ·rw[i3 p];show _=_;have:(rsU b j x).2.I p 0=if p=j then-1 else x.2.I p 0:=Arr;rw[this];by_cases hc:j+1<=p∧p<j+1+m
   ·rw[AM hc,AM o_]
   ·rw[AL hc];by_cases hp:p=j
    ·rw[AM hp,AM o_]
    ·rw[AL hp,AL o_]
def Al0{b:Row}(hf:Fit b){t:Nat}(ht:t<2^b.n):wi ((F6 b).I t 0-1)=mN b t-1:=by
 have hp:2^b.n<=2^10:=Nat.pow_le_pow_right d_ hf.1;have:=(D5 hf ht).bound;exact Vu (by unfold mN at this;omega) (by unfold mN at this;omega)
def YP{s:Nat}(h0:s≠0)(h1:s<2^62){h:Nat}(hb:h.testBit (EW s)=true):h&&&LD s≠0:=by
 have hl:LD s=2^EW s:=(Lib.lowest_bit 64 s h0 o_).1;intro he;have:=congrArg (fun x=>x.testBit (EW s)) he;simp only[hl,Nat.testBit_and,hb,Nat.testBit_two_pow,Nat.zero_testBit,decide_true,Bool.true_and]at this;cases this
def zT{b:Row}(hf:Fit b){rest:Nat}(ht:rest<2^b.n)(h0:rest≠0)(hz:Sg b rest=0):∃h,ZE (F6 b) rest (LD rest) h:=by
 have hp:2^b.n<=2^10:=Nat.pow_le_pow_right d_ hf.1;have hg:=D5 hf ht;rcases hg.att h0 hz with h|⟨h,a,c,d,e,f,k⟩
 ·refine⟨rest,h0,Nat.and_self _,YP h0 o_ (U3 h0 o_).1,?_,?_⟩
  ·show 1<=mN b rest;omega
  ·rw[Nat.xor_self,Al0 hf ht];have:mN b 0=0:=(D5 hf (t:=0) o_).zero rfl;show mN b 0=_;omega
 ·refine⟨h,a,c,YP h0 o_ e,?_,?_⟩
  ·exact((D5 hf (Nat.lt_of_le_of_lt (sub_le c) ht)).pos a f).1
  ·rw[Al0 hf ht];show mN b (rest^^^h)=_;omega
def lab(o:Row):Nat->Nat:=fun p=>(o.I p 0).toNat
structure Grp(b:Row)(rest g0:Nat)(o o':Row):Prop where
 n:o'.n=o.n
 out:∀p,rest.testBit p=false->o'.I p 0=o.I p 0
 lo:∀p,rest.testBit p=true->(g0:Int)<=o'.I p 0
 hi:∀p,rest.testBit p=true->o'.I p 0<g0+mN b rest
 sum:∀q,Sg b (qA (lab o') rest q b.n)=0
 all:∀q,g0<=q->(q:Int)<g0+mN b rest->use (lab o') rest b.n q=true
def Aoz{b:Row}(hf:Fit b)(g0:Nat)(o:Row):Grp b 0 g0 o o:=by
 have h00:mN b 0=0:=(D5 hf (Nat.two_pow_pos _)).zero rfl;refine⟨rfl,fun _ _=>rfl,fun p hp=>?_,fun p hp=>?_,fun q=>?_,fun q _ _=>o_⟩
 ·rw[Nat.zero_testBit]at hp;cases hp
 ·rw[Nat.zero_testBit]at hp;cases hp
 ·rw[show qA (lab o) 0 q b.n=0 from Nat.eq_of_testBit_eq fun i=>by rw[Jg,Nat.zero_testBit];simp];exact Tz
def wV{b:Row}(hf:Fit b):∀(f rest g0:Nat)(o:Row),rest<2^b.n->Sg b rest=0->mN b rest<=f->∃o',yA (F6 b) b.n f rest g0 o=some o'∧Grp b rest g0 o o':=by
 intro f
 induction f with
 |zero=>
  intro rest g0 o ht hz hm;have h0:rest=0:=by
   by_cases h:rest=0
   ·exact h
   ·have:=((D5 hf ht).pos h hz).1;omega
  subst h0;exact⟨o,(by unfold yA;rw[AM rfl]),Aoz hf g0 o⟩
 |succ f ih=>
  intro rest g0 o ht hz hm;unfold yA;by_cases h0:rest=0
  ·subst h0;rw[AM rfl];exact⟨o,rfl,Aoz hf g0 o⟩
  ·rw[AL h0];obtain⟨k1,k2,k3⟩:=Ul (m:=F6 b) (rest:=rest) (low:=LD rest) (rest+1) rest 0 (Nat.and_self _) o_ (.inl rfl);obtain⟨h,hc⟩:=zT hf ht h0 hz;have hr:=k1.resolve_left (k3 h hc (sub_le hc.2.1));show∃o',yA (F6 b) b.n f (rest^^^bst (F6 b) rest (LD rest) (rest+1) rest 0) (g0+1) (aV (bst (F6 b) rest (LD rest) (rest+1) rest 0) g0 b.n 0 o)=some o'∧_;generalize bst (F6 b) rest (LD rest) (rest+1) rest 0=r at hr⊢;obtain⟨r0,rs,rl,rm,rx⟩:=hr;have hrl:r<2^b.n:=Nat.lt_of_le_of_lt (sub_le rs) ht;have hrz:Sg b r=0:=Classical.not_not.1 fun hne=>by
    have:=(D5 hf hrl).neg r0 hne;unfold mN at this;omega
   have hx:mN b (rest^^^r)=mN b rest-1:=by rw[Al0 hf ht]at rx;exact rx
   have hxs:Sg b (rest^^^r)=0:=by
    have:Sg b (rest^^^r)=Sg b rest-Sg b r:=uD rs;omega
   obtain⟨a1,a2⟩:=Afa r (g0:Int) b.n 0 o;obtain⟨o',e1,e2⟩:=ih (rest^^^r) (g0+1) (aV r g0 b.n 0 o) (Nat.lt_of_le_of_lt (Md rs) ht) hxs o_;have hin:∀p,r.testBit p=true->o'.I p 0=g0:=fun p hp=>by
    rw[e2.out p (by rw[Nat.testBit_xor,hp,Ik rs hp];rfl),a2,AM ⟨o_,by have:=WU hrl hp;omega,hp⟩]
   have hcls:∀q,qA (lab o') rest q b.n=if q=g0 then r else qA (lab o') (rest^^^r) q b.n:=fun q=>by
    apply Nat.eq_of_testBit_eq;intro i;rw[Jg];split
    ·rename_i hq;subst hq;cases hri:r.testBit i
     ·cases hsi:rest.testBit i
      ·simp
      ·have:=e2.lo i (by rw[Nat.testBit_xor,hri,hsi];rfl);rw[AB (show¬lab o' i=q by unfold lab;omega)];simp
     ·rw[A4 (WU hrl hri),Ik rs hri,A4 (show lab o' i=q by unfold lab;rw[hin i hri];omega)];rfl
    ·rename_i hq;rw[Jg,Nat.testBit_xor];cases hri:r.testBit i
     ·rw[Bool.xor_false]
     ·rw[Ik rs hri,AB (show¬lab o' i=q by unfold lab;rw[hin i hri];omega)];simp
   refine⟨o',e1,e2.n.trans a1,fun p hp=>?_,fun p hp=>?_,fun p hp=>?_,fun q=>?_,fun q h1 h2=>?_⟩
   ·have hrp:r.testBit p=false:=by
     cases h:r.testBit p
     ·rfl
     ·rw[Ik rs h]at hp;cases hp
    rw[e2.out p (by rw[Nat.testBit_xor,hp,hrp];rfl),a2,AL (fun h=>by rw[hrp]at h;cases h.2.2)]
   ·cases hri:r.testBit p
    ·have:=e2.lo p (by rw[Nat.testBit_xor,hri,hp];rfl);omega
    ·rw[hin p hri];exact Int.le_refl _
   ·cases hri:r.testBit p
    ·have:=e2.hi p (by rw[Nat.testBit_xor,hri,hp];rfl);omega
    ·rw[hin p hri];have:=((D5 hf ht).pos h0 hz).1;omega
   ·rw[hcls];split
    ·exact hrz
    ·exact e2.sum q
   ·unfold use;rw[hcls];by_cases hq:q=g0
    ·rw[AM hq];exact A4 r0
    ·rw[AL hq];exact e2.all q o_ o_
def tot(f:Nat->Int):Nat->Int
 |0=>0
 |n+1=>tot f n+f n
def TQ(b:Row):∀(m j:Nat)(s:Int),(Vx b m j s).1=false-> -1000000000*(j:Int)<=s->s<=1000000000*(j:Int)->j+m<=10->
  (∀i,j<=i->i<j+m-> -1000000000<=b.I i 0∧b.I i 0<=1000000000)∧(Vx b m j s).2=s+(tot (bF b) (j+m)-tot (bF b) j)
 |0,j,s,_,_,_,_=>⟨fun i h1 h2=>o_,by show s=_;rw[Nat.add_zero];omega⟩
 |m+1,j,s,h,h1,h2,h3=>by
  unfold Vx at h⊢;split at h
  ·cases h
  ·rename_i hb;rw[AL hb];have hw:wi (s+b.I j 0)=s+b.I j 0:=Vu o_ o_;rw[hw]at h⊢;obtain⟨i1,i2⟩:=TQ b m (j+1) (s+b.I j 0) h o_ o_ o_;refine⟨fun i a c=>?_,?_⟩
   ·by_cases hij:i=j
    ·subst hij;omega
    ·exact i1 i o_ o_
   ·rw[i2,show j+1+m=j+(m+1) by omega];have:tot (bF b) (j+1)=tot (bF b) j+b.I j 0:=rfl;omega
def ck_fit{b:Row}(h:ckE b=0):Fit b∧1<=b.n∧tot (bF b) b.n=0:=by
 unfold ckE at h;split at h
 ·cases h
 ·rename_i hn;split at h
  ·cases h
  ·rename_i hc;have h1:ckB b=false:=by
    cases hb:ckB b
    ·rfl
    ·exact absurd (.inl hb) hc
   have h2:yL b=0:=Classical.not_not.1 fun hs=>hc (.inr hs);obtain⟨i1,i2⟩:=TQ b b.n 0 0 h1 o_ o_ o_;unfold yL at h2;rw[AE]at i2;refine⟨⟨o_,fun i hi=>i1 i o_ o_⟩,o_,?_⟩;have:tot (bF b) 0=0:=rfl;omega
def jH{f:Nat->Int}{s:Nat}:∀{n},(∀i,i<n->s.testBit i=false->f i=0)->sM f s n=tot f n
 |0,_=>rfl
 |n+1,h=>by
  unfold sM tot;rw[jH (n:=n) fun i hi=>h i o_];cases hs:s.testBit n
  ·rw[h n o_ hs];rfl
  ·rfl
structure GOk(b g:Row)(rest:Nat):Prop where
 n:g.n=b.n
 nz:Nz b rest
 out:∀p,p<b.n->b.I p 0=0->g.I p 0= -1
 lo:∀p,rest.testBit p=true->0<=g.I p 0
 hi:∀p,rest.testBit p=true->g.I p 0<mN b rest
 sum:∀q,Sg b (qA (lab g) rest q b.n)=0
 all:∀q:Nat,(q:Int)<mN b rest->use (lab g) rest b.n q=true
 le:mN b rest<=(pc rest b.n:Nat)
def groups_ok{b:Row}(h:ckE b=0):gpC b=true∧∃rest,GOk b (gpR b) rest:=by
 obtain⟨hf,hn,ht⟩:=ck_fit h;obtain⟨r1,r2,r3⟩:=Aek b b.n 0 (0,Row.zeros b.n);have hnz:Nz b (NE b b.n 0 (0,Row.zeros b.n)).1:=fun i=>by
  rw[r2 i,Nat.zero_testBit,Bool.false_or]
  congr 1
  by_cases hi:i<b.n
  ·rw[A4 hi,A4 o_]
  ·rw[AB hi,AB o_]
 have hl:(NE b b.n 0 (0,Row.zeros b.n)).1<2^b.n:=by
  have:=X5 b b.n 0 (0,Row.zeros b.n) (show 0<2^0 by decide)
  rwa [AE]at this
 have hz:Sg b (NE b b.n 0 (0,Row.zeros b.n)).1=0:=by
  unfold Sg;rw[jH fun i hi hb=>?_]
  ·exact ht
  ·rw[hnz,A4 hi,Bool.true_and]at hb;exact Classical.not_not.1 (AO hb)
 have hpc:=Ao6 hf _ _ (AC _) hl;have hpb:pc (NE b b.n 0 (0,Row.zeros b.n)).1 b.n<=b.n:=P8;have hn1:=hf.1;obtain⟨o,e1,e2⟩:=wV hf 64 _ 0 (NE b b.n 0 (0,Row.zeros b.n)).2 hl hz o_;have hgo:gpO b=some o:=e1;have hgr:gpR b=w_ o 0 b.n:=by unfold gpR;rw[AL (fun h'=>h' h),hgo]
 have hI:∀p,(w_ o 0 b.n).I p 0=o.I p 0:=fun _=>rfl;have hlab:lab (w_ o 0 b.n)=lab o:=rfl;refine⟨?_,(NE b b.n 0 (0,Row.zeros b.n)).1,?_⟩
 ·unfold gpC;rw[hgo];simp
 ·rw[hgr];exact{
   n:=rfl
   nz:=hnz
   out:=fun p hp hb=>by
    rw[hI,e2.out p (by rw[hnz,hb];simp),r3,AM o_]
   lo:=fun p hp=>by have:=e2.lo p hp;rw[hI];omega
   hi:=fun p hp=>by have:=e2.hi p hp;rw[hI];omega
   sum:=fun q=>by rw[hlab];exact e2.sum q
   all:=fun q hq=>by rw[hlab];exact e2.all q o_ o_
   le:=hpc}
end Go.Proofs.YtnljjjghpgdmoaaGreatDoor.Ld.Mk
namespace Go.Proofs.YtnljjjghpgdmoaaGreatDoor
open Go.Ev
def NumsOk(r:Row):Prop:=r.n<=1000000∧∀j,j<r.n->iR (r.I j 0)=true
def RowsOk(m:Nat)(r:Row):Prop:=r.n<=1000000∧∀e,e<r.n->(r.R e 0).n<=1000000∧∀j,j<(r.R e 0).n->∀c,c<m->iR ((r.R e 0).I j c)=true
def uB(r:Row):Prop:=r.n<=1000000∧∀e,e<r.n->iR (r.I e 0)=true∧NumsOk (r.R e 1)∧NumsOk (r.R e 2)
def vV(r:Row):Prop:=r.n<=1000000∧∀e,e<r.n->∀c,c<3->iR (r.I e c)=true
structure DcOk(x:Dc):Prop where
 ca:uB x.ca
 pi:RowsOk 4 x.pi
 wo:RowsOk 2 x.wo
 gv:RowsOk 1 x.gv
 aa:NumsOk x.aa
 fv:RowsOk 1 x.fv
 lr:NumsOk x.lr
 lp:NumsOk x.lp
 ba:NumsOk x.ba
 pa:vV x.pa
 rr:iR x.rr=true
 ld:iR x.ld=true
 pc:0<=x.pc∧x.pc<=255
 cl:0<=x.cl∧x.cl<=255
def F5{n:Int}(h:iR n=true):Rt.iR n=true:=by
 unfold iR at h;unfold Rt.iR;have:=AD h;simp only[A2,A3];omega
def Ant(r:Row):(Ae r).n=r.n:=wn_
def kS{x:Dc}(h:DcOk x):ckC vB x=true:=by
 have h1:(ND (Ae x.ca) (Ae x.pi)&&(!decide (x.pc<=31)||aX (Ae x.wo) x.ca.n))=true:=by
  have a:ND (Ae x.ca) (Ae x.pi)=true:=by
   refine A4 ⟨h.ca.1,fun i hi=>⟨(h.ca.2 i hi).2.1.1,(h.ca.2 i hi).2.2.1⟩,h.pi.1,fun i hi=>⟨(h.pi.2 i hi).1,fun k hk=>?_⟩⟩;have g:=(h.pi.2 i hi).2 k hk;show(Rt.iR ((x.pi.R i 0).I k 0)&&Rt.iR ((x.pi.R i 0).I k 1)&&Rt.iR ((x.pi.R i 0).I k 2)&&Rt.iR ((x.pi.R i 0).I k 3))=true;rw[F5 (g 0 d_),F5 (g 1 d_),F5 (g 2 d_),F5 (g 3 d_)];rfl
  have b:aX (Ae x.wo) x.ca.n=true:=by
   refine A4 ⟨h.wo.1,fun i hi=>⟨(h.wo.2 i hi).1,fun k hk=>?_⟩⟩;have g:=(h.wo.2 i hi).2 k hk;show(Rt.iR ((x.wo.R i 0).I k 0)&&Rt.iR ((x.wo.R i 0).I k 1))=true;rw[F5 (g 0 d_),F5 (g 1 d_)];rfl
  rw[a,b];cases decide (x.pc<=31)<;>rfl
 have h2:decide (x.gv.n<=1000000∧x.aa.n<=1000000)=true:=A4 ⟨h.gv.1,h.aa.1⟩;have ha:GR (Ae x.fv)=true:=A4 ⟨h.fv.1,fun i hi=>(h.fv.2 i hi).1⟩;have hb:GR (Ae (Ae x.fv))=true:=ha;have h3:(Ho (Ae x.fv) x.rr&&Lu (JV (fun a _=>decide (a.n<=1000000))) (Ae x.fv) x.rr (Ae x.lr) (Ae x.lp) x.ld)=true:=by
  show(GR (Ae x.fv)&&(GR (Ae x.fv)&&(GR (Ae (Ae x.fv))&&decide ((Ae (Ae (Ae x.lr))).n<=1000000))&&decide ((Ae x.lp).n<=1000000)))=true;rw[ha,hb,A4 (show(Ae (Ae (Ae x.lr))).n<=1000000 from h.lr.1),A4 (show(Ae x.lp).n<=1000000 from h.lp.1)];rfl
 have h4:Ld.gpC (Ae x.ba)=true:=by
  by_cases e:Ld.ckE (Ae x.ba)=0
  ·exact(Ld.Mk.groups_ok e).1
  ·unfold Ld.gpC;rw[show(Ld.ckE (Ae x.ba) !=0)=true by simpa using e];rfl
 show(Ff x||(TF x.k x||(bif x.k==1 then(ND (Ae x.ca) (Ae x.pi)&&(!decide (x.pc<=31)||aX (Ae x.wo) x.ca.n))else bif x.k==2 then decide (x.gv.n<=1000000∧x.aa.n<=1000000)else bif x.k==3 then(Ho (Ae x.fv) x.rr&&Lu (JV (fun a _=>decide (a.n<=1000000))) (Ae x.fv) x.rr (Ae x.lr) (Ae x.lp) x.ld)else Ld.gpC (Ae x.ba))))=true;rw[h1,h2,h3,h4];cases Ff x<;>cases TF x.k x<;>cases x.k==1<;>cases x.k==2<;>cases x.k==3<;>rfl
def bz{c:Bool}{k t:Int}(hk:k≠0)(h:(bif c then k else t)=0):c=false∧t=0:=by
 cases c
 ·exact⟨rfl,h⟩
 ·exact absurd h hk
def Xg{e t:Int}(h:(bif e !=0 then e else t)=0):e=0∧t=0:=by
 by_cases he:e=0
 ·subst he;exact⟨rfl,h⟩
 ·rw[show(e !=0)=true by simpa using he]at h;exact absurd h he
def YQ{e:Int}{ok:Bool}(h:TE e ok=0):e=0∧ok=true:=by
 unfold TE at h;obtain⟨h1,h2⟩:=bz d_ h;subst h2;cases ok
 ·cases h1
 ·exact⟨rfl,rfl⟩
structure CkV(x:Dc):Prop where
 k:x.k=1∨x.k=2∨x.k=3∨x.k=4
 ot:TF x.k x=false
 c0:x.k=1->x.cl=0
 k1:x.k=1->Qh (Ae x.ca) (Ae x.pi)=0∧x.pc<=31∧ZH (Ae x.wo) x.ca.n=true
 k2:x.k=2->chkE x.gv=0∧Gz x.gv x.aa=0∧x.cl<=31
 k3:x.k=3->Fv (Ae x.fv) x.rr=0∧LM (Kz Du) (Ae x.fv) x.rr (Ae x.lr) (Ae x.lp) x.ld=0∧x.cl<=3
 k4:x.k=4->Ld.ckE (Ae x.ba)=0∧Ld.Lg.chk x.ba.n (Ae x.pa)=0∧x.cl<=3
def SN{x:Dc}(h:ckE vB x=0):CkV x:=by
 unfold ckE at h;obtain⟨h1,h2⟩:=bz d_ h;rw[AI]at h1;obtain⟨h1,h3⟩:=h1;have hk:x.k=1∨x.k=2∨x.k=3∨x.k=4:=by
  unfold Ff at h1;simp only[AI,decide_eq_false_iff_not]at h1;omega
 refine⟨hk,h3,fun e=>?_,fun e=>?_,fun e=>?_,fun e=>?_,fun e=>?_⟩
 ·unfold Ff at h1;rw[e]at h1;simp only[AI]at h1;have:=h1.2.2;simpa using this
 ·rw[e]at h2;replace h2:TE (Qh (Ae x.ca) (Ae x.pi)) (decide (x.pc<=31)&&ZH (Ae x.wo) x.ca.n)=0:=h2;obtain⟨a,b⟩:=YQ h2;rw[A2]at b;exact⟨a,AD b.1,b.2⟩
 ·rw[e]at h2;replace h2:TE (two (chkE x.gv) (Gz x.gv x.aa)) (decide (x.cl<=31))=0:=h2;obtain⟨a,b⟩:=YQ h2;obtain⟨c,d⟩:=Xg a;exact⟨c,d,AD b⟩
 ·rw[e]at h2;replace h2:TE (two (Fv (Ae x.fv) x.rr) (LM (Kz Du) (Ae x.fv) x.rr (Ae x.lr) (Ae x.lp) x.ld)) (decide (x.cl<=3))=0:=h2;obtain⟨a,b⟩:=YQ h2;obtain⟨c,d⟩:=Xg a;exact⟨c,d,AD b⟩
 ·rw[e]at h2;replace h2:TE (two (Ld.ckE (Ae x.ba)) (Ld.Lg.chk x.ba.n (Ae x.pa))) (decide (x.cl<=3))=0:=h2;obtain⟨a,b⟩:=YQ h2;obtain⟨c,d⟩:=Xg a;exact⟨c,d,AD b⟩
def IB{p:Nat->Bool}{n:Nat}(h:Ag p n 0=false){j:Nat}(hj:j<n):p j=false:=anyF_false.1 h j (Nat.zero_le _) o_
def rU{p:Nat->Bool}{f:Nat->Int}{n:Nat}{t:Int}(hp:∀j,p j=(f j !=0))(h:(bif Ag p n 0 then f (FZ p n 0)else t)=0):Ag p n 0=false∧t=0:=by
 cases c:Ag p n 0
 ·rw[c]at h;exact⟨rfl,h⟩
 ·rw[c]at h;have h':f (FZ p n 0)=0:=h;have:=(Ov p n 0 c).2.1;rw[hp,h']at this;cases this
def Aea{r:Row}(h:J3 r=0):r.n<=6∧∀j,j<r.n->Ju r j=0:=by
 unfold J3 at h;obtain⟨h1,h⟩:=bz d_ h;obtain⟨h2,h⟩:=bz d_ h;obtain⟨h3,h⟩:=rU (fun _=>rfl) h;have:=AO h1;exact⟨o_,fun j hj=>by have:=IB h3 hj;simpa using this⟩
def Aov{l:Int}{p q:Row}(h:Ky l p q=0):2<=p.n∧p.n<=40∧q.n+1=p.n:=by
 unfold Ky at h;obtain⟨h1,h⟩:=bz d_ h;obtain⟨h2,h⟩:=bz d_ h;obtain⟨h3,h⟩:=bz d_ h;obtain⟨h4,h⟩:=bz d_ h;obtain⟨h5,h⟩:=bz d_ h;have a:=AO h2;have b:=AO h4;have c:(q.n:Int)=(p.n:Int)-1:=by simpa using h5
 omega
def Adm{r s:Row}(h:Qh r s=0):J3 r=0∧s.n=r.n∧∀j,j<s.n->(s.R j 0).n<=60:=by
 unfold Qh at h;obtain⟨h1,h⟩:=Xg h;obtain⟨h2,h⟩:=bz d_ h;obtain⟨h3,h⟩:=rU (fun _=>rfl) h;refine⟨h1,by
  have:(s.n:Int)=(r.n:Int):=by simpa using h2
  omega,fun j hj=>?_⟩
 have g:IW s j=0:=by have:=IB h3 hj;simpa using this
 unfold IW NF at g;obtain⟨g1,_⟩:=Xg g;unfold NL at g1;obtain⟨g2,_⟩:=bz d_ g1;have:=AO g2;have e:(w_ (s.R j 0) 0 (s.R j 0).n).n=(s.R j 0).n:=wn_;omega
def Ar8{r:Row}{k:Int}(h:ZH r k=true):(r.n:Int)=k∧∀j,j<r.n->((r.R j 0).n:Int)=k∧JZ (r.R j 0)=false:=by
 unfold ZH at h;rw[A2,Bool.not_eq_true']at h;refine⟨by simpa using h.2,fun j hj=>?_⟩;have g:=IB h.1 hj;rw[AI]at g;exact⟨by simpa using g.2,g.1⟩
def zS{x:Dc}(hx:DcOk x)(h:ckE vB x=0):dC x=true:=by
 have v:=SN h;unfold dC;rcases v.k with e|e|e|e
 ·obtain⟨h1,h2,h3⟩:=v.k1 e;obtain⟨a1,a2,a3⟩:=Adm h1;obtain⟨b1,b2⟩:=Aea a1;obtain⟨c1,c2⟩:=Ar8 h3;have hn:(Ae x.ca).n=x.ca.n:=wn_;have hp:(Ae x.pi).n=x.pi.n:=wn_;have hw:(Ae x.wo).n=x.wo.n:=wn_;rw[hn]at b1;have:sN x:=by
   refine⟨e,⟨o_,fun i hi=>?_,fun i hi=>(hx.ca.2 i hi).2.1.2,fun i hi=>(hx.ca.2 i hi).2.2.2⟩,⟨o_,fun i hi=>?_,fun i hi j hj c hc=>F5 ((hx.pi.2 i hi).2 j hj c hc)⟩,⟨o_,fun i hi=>?_,fun i hi j hj c hc=>F5 ((hx.wo.2 i hi).2 j hj c hc)⟩,hx.pc.1,hx.pc.2,hx.cl.1,hx.cl.2⟩
   ·have g:=Aov (b2 i o_);have e1:(w_ ((Ae x.ca).R i 1) 0 ((Ae x.ca).R i 1).n).n=(x.ca.R i 1).n:=wn_;have e2:(w_ ((Ae x.ca).R i 2) 0 ((Ae x.ca).R i 2).n).n=(x.ca.R i 2).n:=wn_;rw[e1,e2]at g;exact⟨o_,o_,o_,(hx.ca.2 i hi).1⟩
   ·have g:=a3 i o_;have e1:((Ae x.pi).R i 0).n=(x.pi.R i 0).n:=rfl;omega
   ·have g:=(c2 i o_).1;have e1:((Ae x.wo).R i 0).n=(x.wo.R i 0).n:=rfl;omega
  rw[A4 this];simp
 ·obtain⟨h1,h2,h3⟩:=v.k2 e;have k1:=h1;unfold chkE at h1;obtain⟨a1,h1⟩:=bz d_ h1;rw[AI]at a1;have a2:=AO a1.1;obtain⟨b1,h1⟩:=bz d_ h1;rw[AI]at b1;have b2:x.gv.n≠0:=by have:=b1.1;simpa using this
  have a3:∀i,i<x.gv.n->(x.gv.R i 0).n<=10:=fun i hi=>by
   have:=AO (IB a1.2 hi);omega
  unfold Gz at h2;obtain⟨_,h2⟩:=Xg h2;obtain⟨c1,_⟩:=bz d_ h2;rw[AI]at c1;have c2:(x.aa.n:Int)=((x.gv.R 0 0).n:Int):=by simpa using c1.1
  have c3:=a3 0 o_;have:Af8 x:=⟨e,o_,fun i hi=>by have:=a3 i hi;omega,fun i hi j hj=>(hx.gv.2 i hi).2 j hj 0 d_,o_,hx.aa.2,hx.pc.1,hx.pc.2,hx.cl.1,hx.cl.2⟩;rw[A4 this];simp
 ·obtain⟨h1,h2,h3⟩:=v.k3 e;unfold Fv at h1;obtain⟨a1,_⟩:=Xg h1;obtain⟨b1,b2,b3⟩:=LJ a1;have hn:(Ae x.fv).n=x.fv.n:=wn_;unfold LM at h2;obtain⟨_,h2⟩:=Xg h2;obtain⟨c1,h2⟩:=Xg h2;obtain⟨_,h2⟩:=bz d_ h2;obtain⟨_,h2⟩:=bz d_ h2;obtain⟨c4,h2⟩:=bz d_ h2;have c5:((Ae x.lp).n:Int)=((Ae x.fv).n:Int):=by simpa using c4
  have hl:(Ae x.lp).n=x.lp.n:=wn_;unfold Kz at c1;obtain⟨_,c1⟩:=Xg c1;obtain⟨d1,_⟩:=bz d_ c1;rw[Bool.not_eq_false']at d1;have d2:=(Pi _ _ d1).1;have d3:(Ae (Ae (Ae x.lr))).n=x.lr.n:=rfl;have d4:(Ae (Ae x.fv)).n=x.fv.n:=rfl;have:mF x:=⟨e,o_,fun i hi=>by have:=(b3 i o_).1;have e1:((Ae x.fv).R i 0).n=(x.fv.R i 0).n:=rfl;omega,fun i hi j hj=>(hx.fv.2 i hi).2 j hj 0 d_,o_,hx.lr.2,o_,o_,hx.lp.2,hx.rr,hx.ld,hx.pc.1,hx.pc.2,hx.cl.1,hx.cl.2⟩;rw[A4 this];simp
 ·obtain⟨h1,h2,h3⟩:=v.k4 e;have hb:(Ae x.ba).n=x.ba.n:=wn_;have hp:(Ae x.pa).n=x.pa.n:=wn_;have a1:x.ba.n<=10:=by
   unfold Ld.ckE at h1;split at h1
   ·cases h1
   ·omega
  unfold Ld.Lg.chk at h2;have a2:x.pa.n<=200:=by
   cases c:Ld.Lg.partiesB (x.ba.n:Int)
   ·rw[c]at h2;cases h2
   ·rw[c]at h2;replace h2:(bif ((Ae x.pa).n:Int)>200 then(4:Int)else bif Ag (Ld.Lg.bad (x.ba.n:Int) (Ae x.pa)) (Ae x.pa).n 0 then 8 else 0)=0:=h2;obtain⟨g,_⟩:=bz d_ h2;have:=AO g;omega
  have:Aei x:=⟨e,o_,hx.ba.2,o_,fun i hi c hc=>hx.pa.2 i hi c hc,hx.pc.1,hx.pc.2,hx.cl.1,hx.cl.2⟩;rw[A4 this];simp
open Go.Lib Go.RowKit
def _root_.Go.Ev.RdA.I{ks:List CK}{r r':Row}(h:RdA ks r r'){k:IntKind}{c:Nat}(hc:ks[c]? =some (.int k)){e:Nat}(he:e<r.n):r.I e c=r'.I e c:=by
 cases h with
 |mk hn hh=>
  cases hh e c _ he hc with
  |int h=>exact h
def _root_.Go.Ev.RdA.R{ks:List CK}{r r':Row}(h:RdA ks r r'){sub:List CK}{c:Nat}(hc:ks[c]? =some (.slice sub)){e:Nat}(he:e<r.n):RdA sub (r.R e c) (r'.R e c):=by
 cases h with
 |mk hn hh=>
  cases hh e c _ he hc with
  |slice h=>exact h
abbrev V5:List CK:=Ar
abbrev kC1:List CK:=DV
abbrev kP1:List CK:=Fh
abbrev kW1:List CK:=Es
abbrev kL1:List CK:=Cc
abbrev k31:List CK:=Ht
structure AlDc(x y:Dc):Prop where
 k:x.k=y.k
 ca:RdA kC1 x.ca y.ca
 pi:RdA kP1 x.pi y.pi
 pc:x.pc=y.pc
 wo:RdA kW1 x.wo y.wo
 gv:RdA kL1 x.gv y.gv
 aa:RdA V5 x.aa y.aa
 fv:RdA kL1 x.fv y.fv
 rr:x.rr=y.rr
 lr:RdA V5 x.lr y.lr
 lp:RdA V5 x.lp y.lp
 ld:x.ld=y.ld
 ba:RdA V5 x.ba y.ba
 pa:RdA k31 x.pa y.pa
 cl:x.cl=y.cl
def AlDc.can(x:Dc):AlDc x (Bd x):=⟨rfl,BQ ..,BQ ..,rfl,BQ ..,BQ ..,BQ ..,BQ ..,rfl,BQ ..,BQ ..,rfl,BQ ..,BQ ..,rfl⟩
def AlDc.eq{x y:Dc}(h:AlDc x y):Bd x=Bd y:=by
 unfold Bd;rw[h.k,ED 5 _ _ _ rfl h.ca,ED 5 _ _ _ rfl h.pi,h.pc,ED 5 _ _ _ rfl h.wo,ED 5 _ _ _ rfl h.gv,ED 5 _ _ _ rfl h.aa,ED 5 _ _ _ rfl h.fv,h.rr,ED 5 _ _ _ rfl h.lr,ED 5 _ _ _ rfl h.lp,h.ld,ED 5 _ _ _ rfl h.ba,ED 5 _ _ _ rfl h.pa,h.cl]
def NumsOk.al{r r':Row}(h:RdA V5 r r')(hr:NumsOk r):NumsOk r':=⟨by rw[<-h.hn];exact hr.1,fun j hj=>by rw[<-h.hn]at hj;rw[<-h.I (k:=.i64) (c:=0) rfl hj];exact hr.2 j hj⟩
def RowsOk.al{m:Nat}{sub:List CK}{r r':Row}(h:RdA [.slice sub] r r')(hs:∀c,c<m->sub[c]? =some (.int .i64))(hr:RowsOk m r):RowsOk m r':=⟨by rw[<-h.hn];exact hr.1,fun e he=>by
 rw[<-h.hn]at he;have g:=h.R (sub:=sub) (c:=0) rfl he;obtain⟨h1,h2⟩:=hr.2 e he;refine⟨by rw[<-g.hn];exact h1,fun j hj c hc=>?_⟩;rw[<-g.hn]at hj;rw[<-g.I (hs c hc) hj];exact h2 j hj c hc⟩
def lt1{c:Nat}(h:c<1):c=0:=o_
def lt2{c:Nat}(h:c<2):c=0∨c=1:=o_
def lt3{c:Nat}(h:c<3):c=0∨c=1∨c=2:=o_
def lt4{c:Nat}(h:c<4):c=0∨c=1∨c=2∨c=3:=o_
def DcOk.al{x y:Dc}(h:AlDc x y)(o:DcOk x):DcOk y where
 ca:=⟨by rw[<-h.ca.hn];exact o.ca.1,fun e he=>by
  rw[<-h.ca.hn]at he;obtain⟨h1,h2,h3⟩:=o.ca.2 e he;exact⟨by rw[<-h.ca.I (k:=.i64) (c:=0) rfl he];exact h1,NumsOk.al (h.ca.R (sub:=V5) (c:=1) rfl he) h2,NumsOk.al (h.ca.R (sub:=V5) (c:=2) rfl he) h3⟩⟩
 pi:=o.pi.al h.pi fun c hc=>by rcases lt4 hc with rfl|rfl|rfl|rfl<;>rfl
 wo:=o.wo.al h.wo fun c hc=>by rcases lt2 hc with rfl|rfl<;>rfl
 gv:=o.gv.al h.gv fun c hc=>by rw[lt1 hc];rfl
 aa:=o.aa.al h.aa
 fv:=o.fv.al h.fv fun c hc=>by rw[lt1 hc];rfl
 lr:=o.lr.al h.lr
 lp:=o.lp.al h.lp
 ba:=o.ba.al h.ba
 pa:=⟨by rw[<-h.pa.hn];exact o.pa.1,fun e he c hc=>by
  rw[<-h.pa.hn]at he;have:k31[c]? =some (.int .i64):=by rcases lt3 hc with rfl|rfl|rfl<;>rfl
  rw[<-h.pa.I this he];exact o.pa.2 e he c hc⟩
 rr:=by rw[<-h.rr];exact o.rr
 ld:=by rw[<-h.ld];exact o.ld
 pc:=by rw[<-h.pc];exact o.pc
 cl:=by rw[<-h.cl];exact o.cl
def Aon{l:List UInt8}(h:Y4 l=false):iR (XY l)=true:=by
 unfold Y4 at h;unfold XY;cases e:Lib.atoiAll l with
 |ok v=>exact A4 (Lib.atoiAll_bounds e)
 |_=>rw[e]at h;cases h
def Aaw{n d:Int}(h:Rt.goodR n d):iR n=true∧iR d=true:=by
 obtain⟨⟨h1,h2⟩,⟨h3,h4⟩,_⟩:=h;exact⟨A4 ⟨o_,o_⟩,A4 ⟨o_,o_⟩⟩
def Ab7{r:Row}(hz:AV r=true):NumsOk (BU r):=by
 cases hB:Et r with
 |false=>
  have:BU r=.nil:=by
   unfold BU;unfold Et at hB;rw[show(aT r).1=true by simpa using hB];rfl
  rw[this];exact⟨Nat.zero_le _,fun j hj=>absurd hj (Nat.not_lt_zero _)⟩
 |true=>
  obtain⟨h1,h2⟩:=Aec r;obtain⟨h3,h4⟩:=h2 hB;rw[hB]at h1;have h1':Ag (fun j=>Y4 (Ad (r.S j 0))) r.n 0=false:=by simpa using h1.symm
  refine⟨by rw[h3];exact(JK hz).1,fun j hj=>?_⟩;rw[h3]at hj;rw[h4 j hj];exact Aon (anyF_false.1 h1' j (Nat.zero_le _) o_)
def Yd{r:Row}(hz:AV r=true):(BL r).n<=1000000∧∀j,j<(BL r).n->iR ((BL r).I j 0)=true∧iR ((BL r).I j 1)=true:=by
 cases hB:BP r with
 |false=>
  have:BL r=.nil:=by
   unfold BL;unfold BP at hB;rw[show(Un r).1=true by simpa using hB];rfl
  rw[this];exact⟨Nat.zero_le _,fun j hj=>absurd hj (Nat.not_lt_zero _)⟩
 |true=>
  obtain⟨h1,h2⟩:=Adp r;obtain⟨h3,h4⟩:=h2 hB;rw[hB]at h1;have h1':Ag (fun j=>Rt.rpE (Ad (r.S j 0)) !=0) r.n 0=false:=by simpa using h1.symm
  refine⟨by rw[h3];exact(JK hz).1,fun j hj=>?_⟩;rw[h3]at hj;obtain⟨g1,g2⟩:=h4 j hj;rw[g1,g2];have:=anyF_false.1 h1' j (Nat.zero_le _) o_;exact Aaw (Rt.rp_sound (by simpa using this)).1
def Ap9(r:Row)(a b c d:Int):(WG r a b c d).n=r.n+1:=rfl
def S9(r:Row)(a b c d:Int){i:Nat}(h:i<r.n)(j:Nat):(WG r a b c d).I i j=r.I i j:=congrFun (LK (w_ r 0 r.n) (w_ (((((Row.zeros 1).setI 0 0 a).setI 0 1 b).setI 0 2 c).setI 0 3 d) 0 1) (i:=i) h).1.1 j
def Ajm(r:Row)(a b c d:Int):(WG r a b c d).I r.n 0=a∧(WG r a b c d).I r.n 1=b∧(WG r a b c d).I r.n 2=c∧(WG r a b c d).I r.n 3=d:=by
 have h:=(LU (w_ r 0 r.n) (w_ (((((Row.zeros 1).setI 0 0 a).setI 0 1 b).setI 0 2 c).setI 0 3 d) 0 1) (i:=r.n) (Nat.lt_irrefl _)).1.1;have e:r.n-(w_ r 0 r.n).n=0:=Nat.sub_self _;refine⟨(congrFun h 0).trans ?_,(congrFun h 1).trans ?_,(congrFun h 2).trans ?_,(congrFun h 3).trans ?_⟩<;>rw[e]<;>rfl
def XO(f0 f1 f2 f3:Nat->Int):∀(m j:Nat)(a:Row),a.n=j->(∀i,i<j->a.I i 0=f0 i∧a.I i 1=f1 i∧a.I i 2=f2 i∧a.I i 3=f3 i)->
  (BK (fun j a=>WG a (f0 j) (f1 j) (f2 j) (f3 j)) m j a).n=j+m∧∀i,i<j+m->(BK (fun j a=>WG a (f0 j) (f1 j) (f2 j) (f3 j)) m j a).I i 0=f0 i∧(BK (fun j a=>WG a (f0 j) (f1 j) (f2 j) (f3 j)) m j a).I i 1=f1 i∧(BK (fun j a=>WG a (f0 j) (f1 j) (f2 j) (f3 j)) m j a).I i 2=f2 i∧(BK (fun j a=>WG a (f0 j) (f1 j) (f2 j) (f3 j)) m j a).I i 3=f3 i
 |0,j,a,h1,h2=>⟨h1,h2⟩
 |m+1,j,a,h1,h2=>by
  have h:=XO f0 f1 f2 f3 m (j+1) (WG a (f0 j) (f1 j) (f2 j) (f3 j)) (by rw[Ap9,h1]) (fun i hi=>by
   by_cases hij:i<j
   ·rw[S9 _ _ _ _ _ o_,S9 _ _ _ _ _ o_,S9 _ _ _ _ _ o_,S9 _ _ _ _ _ o_];exact h2 i hij
   ·have:i=a.n:=o_;obtain⟨g0,g1,g2,g3⟩:=Ajm a (f0 j) (f1 j) (f2 j) (f3 j);rw[this,g0,g1,g2,g3,h1];exact⟨rfl,rfl,rfl,rfl⟩)
  rw[show j+(m+1)=j+1+m by omega];exact h
def Abb(q:Row):(FP q).n=q.n/2∧∀i,i<q.n/2->(FP q).I i 0=q.I (2*i) 0∧(FP q).I i 1=q.I (2*i) 1∧(FP q).I i 2=q.I (2*i+1) 0∧(FP q).I i 3=q.I (2*i+1) 1:=by
 obtain⟨h1,h2⟩:=XO (fun j=>q.I (2*j) 0) (fun j=>q.I (2*j) 1) (fun j=>q.I (2*j+1) 0) (fun j=>q.I (2*j+1) 1) (q.n/2) 0 .nil rfl (fun i hi=>absurd hi (Nat.not_lt_zero _));exact⟨h1.trans (AE _),fun i hi=>h2 i o_⟩
def RowsOk.app{m:Nat}{o w:Row}(h:RowsOk m o)(hn:o.n+1<=1000000)(hw:w.n<=1000000∧∀j,j<w.n->∀c,c<m->iR (w.I j c)=true):RowsOk m (Em o w):=⟨hn,fun e he=>by
 have he':e<o.n+1:=he;by_cases hlt:e<o.n
 ·rw[Abw hlt];exact h.2 e hlt
 ·rw[yI (show e=o.n by omega)];exact hw⟩
def zN{o l:Row}{i:Nat}(h:i<o.n):(PH o l).I i=o.I i∧(PH o l).R i=o.R i:=by
 have:=LK (w_ o 0 o.n) (w_ ((((Row.zeros 1).setI 0 0 (l.I 0 0)).setR 0 1 (w_ l 1 (l.n/2))).setR 0 2 (w_ l (0+(l.n/2+1)) (l.n-(l.n/2+1)))) 0 1) (i:=i) h;exact⟨this.1.1,this.2⟩
def Aar(o l:Row):(PH o l).I o.n 0=l.I 0 0∧(PH o l).R o.n 1=w_ l 1 (l.n/2)∧(PH o l).R o.n 2=w_ l (0+(l.n/2+1)) (l.n-(l.n/2+1)):=by
 have h:=LU (w_ o 0 o.n) (w_ ((((Row.zeros 1).setI 0 0 (l.I 0 0)).setR 0 1 (w_ l 1 (l.n/2))).setR 0 2 (w_ l (0+(l.n/2+1)) (l.n-(l.n/2+1)))) 0 1) (i:=o.n) (Nat.lt_irrefl _);have e:o.n-(w_ o 0 o.n).n=0:=Nat.sub_self _;refine⟨(congrFun h.1.1 0).trans ?_,(congrFun h.2 1).trans ?_,(congrFun h.2 2).trans ?_⟩<;>rw[e]<;>rfl
def Acx{o l:Row}{i:Nat}(h:i<o.n):(Ny o l).I i=o.I i:=(LK (w_ o 0 o.n) (w_ ((((Row.zeros 1).setI 0 0 (l.I 0 0)).setI 0 1 (l.I 1 0)).setI 0 2 (l.I 2 0)) 0 1) (i:=i) h).1.1
def Ac8(o l:Row):(Ny o l).I o.n 0=l.I 0 0∧(Ny o l).I o.n 1=l.I 1 0∧(Ny o l).I o.n 2=l.I 2 0:=by
 have h:=(LU (w_ o 0 o.n) (w_ ((((Row.zeros 1).setI 0 0 (l.I 0 0)).setI 0 1 (l.I 1 0)).setI 0 2 (l.I 2 0)) 0 1) (i:=o.n) (Nat.lt_irrefl _)).1.1;have e:o.n-(w_ o 0 o.n).n=0:=Nat.sub_self _;refine⟨(congrFun h 0).trans ?_,(congrFun h 1).trans ?_,(congrFun h 2).trans ?_⟩<;>rw[e]<;>rfl
def NumsOk.win{l:Row}(h:NumsOk l){e m:Nat}(hm:e+m<=l.n):NumsOk (w_ l e m):=⟨by rw[wn_];have:=h.1;omega,fun j hj=>by
 rw[wn_]at hj;rw[Jf];exact h.2 _ o_⟩
def rZ(n:Int):0<=IntKind.u8.wrap n∧IntKind.u8.wrap n<=255:=by
 rw[IntKind.wrap_u8];omega
def Ajp{s:Y_}{p:Px}{j:Nat}(hs:s.size<=100000)(hp:SzP p j)(hj:j<=900000)(h:DcOk (EG p)):DcOk (EG (Eo s p).2):=by
 have hz:=SS hs;have hl:=Ab7 hz;obtain⟨hq1,hq2⟩:=Yd hz;obtain⟨z1,z2,z3,z4,z5,z6⟩:=hp;unfold Eo;generalize Ad ((AY s).S 0 0)=w;unfold Ce;generalize BU (BG (AY s))=l at hl⊢;generalize BL (BG (AY s))=q at hq1 hq2⊢;generalize Et (BG (AY s))=nb;generalize BP (BG (AY s))=qb;have bc:∀(b:Bool)(x z:Bool×Px),(b=true->DcOk (EG x.2))->DcOk (EG z.2)->DcOk (EG (bif b then x else z).2):=fun b x z hx hz=>by
  cases b
  ·exact hz
  ·exact hx rfl
 have bp:∀(b:Bool)(x z:Px),DcOk (EG x)->DcOk (EG z)->DcOk (EG (bif b then x else z)):=fun b x z hx hz=>by cases b<;>assumption
 have hl0:∀j,j<l.n->iR (l.I j 0)=true:=hl.2;refine bc _ _ _ (fun _=>bc _ _ _ (fun _=>?_) h) (bc _ _ _ (fun _=>bc _ _ _ (fun _=>?_) h) (bc _ _ _ (fun _=>h) (bc _ _ _ (fun _=>bc _ _ _ (fun hb=>?_) h) (bc _ _ _ (fun _=>bp _ _ _ ?_ ?_) (bc _ _ _ (fun _=>?_) (bc _ _ _ (fun _=>bc _ _ _ (fun hb=>?_) h) (bc _ _ _ (fun _=>?_) (bc _ _ _ (fun _=>bc _ _ _ (fun hb=>?_) h) (bc _ _ _ (fun _=>?_) (bc _ _ _ (fun _=>bc _ _ _ (fun hb=>?_) h) (bc _ _ _ (fun _=>bc _ _ _ (fun hb=>bp _ _ _ ?_ ?_) h) h)))))))))))
 ·refine{h with pi:=?_};refine(RowsOk.app (o:=p.pi) h.pi o_ ?_:RowsOk 4 (Em p.pi (Ae (FP q))));obtain⟨a1,a2⟩:=Abb q;have a3:(Ae (FP q)).n=q.n/2:=a1;refine⟨o_,fun j hj c hc=>?_⟩;rw[a3]at hj;obtain⟨b0,b1,b2,b3⟩:=a2 j hj;show iR ((FP q).I j c)=true;rcases lt4 hc with rfl|rfl|rfl|rfl
  ·rw[b0];exact(hq2 _ o_).1
  ·rw[b1];exact(hq2 _ o_).2
  ·rw[b2];exact(hq2 _ o_).1
  ·rw[b3];exact(hq2 _ o_).2
 ·refine{h with wo:=?_};refine(RowsOk.app (o:=p.wo) h.wo o_ ⟨hq1,fun j hj c hc=>?_⟩:RowsOk 2 (Em p.wo (Ae q)));have hj':j<q.n:=hj;show iR (q.I j c)=true;rcases lt2 hc with rfl|rfl
  ·exact(hq2 j hj').1
  ·exact(hq2 j hj').2
 ·rw[A2,A3,A3]at hb;refine{h with ca:=?_};have hn:(PH p.ca l).n=p.ca.n+1:=rfl;refine(⟨o_,fun e he=>?_⟩:uB (PH p.ca l));rw[hn]at he;by_cases hlt:e<p.ca.n
  ·obtain⟨a1,a2⟩:=zN (l:=l) hlt;rw[a1,a2];exact h.ca.2 e hlt
  ·obtain⟨a1,a2,a3⟩:=Aar p.ca l;rw[show e=p.ca.n by omega,a1,a2,a3];exact⟨hl0 0 o_,hl.win o_,hl.win o_⟩
 ·exact{h with gv:=(RowsOk.app (o:=p.gv) h.gv o_ ⟨hl.1,fun j hj c hc=>by rw[lt1 hc];exact hl0 j hj⟩:RowsOk 1 (Em p.gv (Ae l)))}
 ·exact{h with fv:=(RowsOk.app (o:=p.fv) h.fv o_ ⟨hl.1,fun j hj c hc=>by rw[lt1 hc];exact hl0 j hj⟩:RowsOk 1 (Em p.fv (Ae l)))}
 ·exact{h with aa:=(hl:NumsOk l)}
 ·exact{h with rr:=hl0 0 (by have:=AD hb;omega)}
 ·exact{h with lr:=(hl:NumsOk l)}
 ·have hb':=AD hb;exact{h with ld:=hl0 0 hb',lp:=(hl.win (e:=1) (m:=l.n-1) o_:NumsOk (w_ l 1 (l.n-1)))}
 ·exact{h with ba:=(hl:NumsOk l)}
 ·have hb':=AD hb;refine{h with pa:=?_};have hn:(Ny p.pa l).n=p.pa.n+1:=rfl;refine(⟨o_,fun e he c hc=>?_⟩:vV (Ny p.pa l));rw[hn]at he;by_cases hlt:e<p.pa.n
  ·rw[Acx hlt];exact h.pa.2 e hlt c hc
  ·obtain⟨a1,a2,a3⟩:=Ac8 p.pa l;rw[show e=p.pa.n by omega];rcases lt3 hc with rfl|rfl|rfl
   ·rw[a1];exact hl0 0 o_
   ·rw[a2];exact hl0 1 o_
   ·rw[a3];exact hl0 2 o_
 ·exact{h with pc:=rZ _}
 ·exact{h with cl:=rZ _}
inductive RdL:Px->List (List UInt8)->Px->Prop
 |nil{p:Px}:RdL p [] p
 |cons{p q r:Px}{l:List UInt8}{ls:List (List UInt8)}(h10:∀c∈l,c≠10)(h:Eo (txt l) p=(true,q))(t:RdL q ls r):RdL p (l::ls) r
def IA(ls:List (List UInt8)):List UInt8:=(ls.map (· ++[10])).flatten
def DK(a b:List (List UInt8)):IA (a++b)=IA a++IA b:=by unfold IA;rw[List.map_append,List.flatten_append]
def Ez(l:List UInt8):IA [l]=l++[10]:=by simp[IA]
def RdL.run{p p':Px}{ls:List (List UInt8)}(h:RdL p ls p')(x:A_lpl):∀(rest:Y_),Ad rest=IA ls->∀j,(Bf (lpl.stop x) (lpl.nx x) (Ln.lnN rest) j ⟨rest,p⟩).1=false∧(Bf (lpl.stop x) (lpl.nx x) (Ln.lnN rest) j ⟨rest,p⟩).2.2.p=p':=by
 induction h with
 |nil=>
  intro rest hr j;rw[Ln.lnN_nil hr];exact⟨rfl,rfl⟩
 |@cons p q r l ls h10 h _ ih=>
  intro rest hr j;have e:Ad rest=l++10::IA ls:=by rw[hr];simp[IA]
  have e2:rest=txt (l++10::IA ls):=by rw[<-e,txt_by]
  obtain⟨-,h1,h2⟩:=Ln.sp_line (x:=l) (y:=IA ls) h10;rw[<-e2]at h1 h2;have hne:Ad rest≠[]:=by rw[e];simp
  rw[Ln.lnN_rest hne];have hs:lpl.stop x j ⟨rest,p⟩=false:=by
   show(!(Eo (Ln.oneB rest) p).1)=false;rw[h1,h];rfl
  have hn:lpl.nx x j ⟨rest,p⟩=⟨Ln.restB rest,q⟩:=by
   show(⟨Ln.restB rest,(Eo (Ln.oneB rest) p).2⟩:Pa)=_;rw[h1,h]
  rw[Fq hs,hn];exact ih (Ln.restB rest) (by rw[h2,CB]) (j+1)
def Zn(k:Int):Px:=⟨k,.nil,.nil,0,.nil,.nil,.nil,.nil,0,.nil,.nil,0,0,0,.nil,.nil,0⟩
def Aqd:EH (BM 0)=1:=k_
def Aq8:EH (BM 1)=2:=k_
def Ara:EH (BM 2)=3:=k_
def Ars:EH (BM 3)=4:=k_
def X4{hd:Y_}{k:Int}(hk:EH hd=k)(h10:∀c∈Ad hd,c≠10){ls:List (List UInt8)}{p':Px}(h:RdL (Zn k) ls p'):xpS (txt (Ad hd++[10]++IA ls))=false∧MW (txt (Ad hd++[10]++IA ls))=p':=by
 have e:Ad hd++[10]++IA ls=Ad hd++10::IA ls:=y_;rw[e];obtain⟨-,h1,h2⟩:=Ln.sp_line (x:=Ad hd) (y:=IA ls) h10;unfold xpS MW;rw[h1,h2,txt_by,hk];exact h.run (ZC (txt (Ad hd++10::IA ls)) (txt (IA ls)) k) (txt (IA ls)) (CB _) 0
def fD(x:Nat->Int):∀n,∀c∈BI x n,c≠10
 |0,c,hc=>by cases hc
 |n+1,c,hc=>by
  rcases List.mem_append.1 hc with h|h
  ·exact fD x n c h
  ·rcases A8.1 h with rfl|h
   ·decide
   ·exact(Ln.itoa_spec _ c h).2
def uJ(x:Nat->Int×Int):∀n,∀c∈FO x n,c≠10
 |0,c,hc=>by cases hc
 |n+1,c,hc=>by
  rcases List.mem_append.1 hc with h|h
  ·exact uJ x n c h
  ·rcases A8.1 h with rfl|h
   ·decide
   ·exact(lH _ c h).2
def Aia{word:Y_}(hw:∀c∈Ad word,c≠10)(x:Nat->Int)(n:Nat):∀c∈Ad word++BI x n,c≠10:=fun c hc=>by
 rcases List.mem_append.1 hc with h|h
 ·exact hw c h
 ·exact fD x n c h
def Ajl{word:Y_}(hw:∀c∈Ad word,c≠10)(x:Nat->Int×Int)(n:Nat):∀c∈Ad word++FO x n,c≠10:=fun c hc=>by
 rcases List.mem_append.1 hc with h|h
 ·exact hw c h
 ·exact uJ x n c h
section
variable{p:Px}{x:Nat->Int}{n:Nat}
end
def Py(word:Y_)(x:Nat->Nat->Int)(n:Nat->Nat):∀k,EI word x n k=IA ((List.range k).map fun e=>Ad word++BI (x e) (n e))
 |0=>rfl
 |k+1=>by rw[List.range_succ,List.map_append,DK,<-Py word x n k,List.map_singleton,Ez];rfl
def VH(word:Y_)(x:Nat->Nat->Int×Int)(n:Nat->Nat):∀k,Kv word x n k=IA ((List.range k).map fun e=>Ad word++FO (x e) (n e))
 |0=>rfl
 |k+1=>by rw[List.range_succ,List.map_append,DK,<-VH word x n k,List.map_singleton,Ez];rfl
def Ja{r:Row}{j:Nat}(h:j<r.n):IL r j=r.I j 0:=AM h
def VE{r:Row}{e j:Nat}(h:e<r.n)(hj:j<(r.R e 0).n):YS r e j=(r.R e 0).I j 0:=AM ⟨h,hj⟩
def jI{r:Row}{e i:Nat}(h:e<r.n)(hi:i<3):pOf r e i=r.I e i:=AM ⟨h,hi⟩
def Zf{r:Row}{c e j:Nat}(h:e<r.n)(hj:j<(r.R e c).n):xO r c e j=(r.R e c).I j 0:=AM ⟨h,hj⟩
def Aoj{r:Row}{e j:Nat}(h:e<r.n)(hj:j<(r.R e 0).n):qO r e j=((r.R e 0).I j 0,(r.R e 0).I j 1):=AM ⟨h,hj⟩
def Apm{r:Row}{e i c:Nat}(h:e<r.n)(hi:i<(r.R e 0).n)(hc:c<4):sO r e i c=(r.R e 0).I i c:=AM ⟨h,hi,hc⟩
def Air{x:Dc}(h:fC x=false):x.ca.n=0∧x.pi.n=0∧x.wo.n=0∧x.pc=0:=by
 unfold fC at h;simp only[AI,decide_eq_false_iff_not]at h;obtain⟨h1,h2,h3,h4⟩:=h;exact⟨o_,o_,o_,by simpa using h4⟩
def Aql{x:Dc}(hk:x.k=2)(h:TF x.k x=false):fC x=false∧fR x=false∧fS x=false:=by
 rw[hk,SY]at h;revert h;generalize fC x=a;generalize fG x=b;generalize fR x=c;generalize fS x=d;revert a b c d
 decide
def Ark{x:Dc}(hk:x.k=3)(h:TF x.k x=false):fC x=false∧fG x=false∧fS x=false:=by
 rw[hk,SY]at h;revert h;generalize fC x=a;generalize fG x=b;generalize fR x=c;generalize fS x=d;revert a b c d
 decide
def Ar7{x:Dc}(hk:x.k=4)(h:TF x.k x=false):fC x=false∧fG x=false∧fR x=false:=by
 rw[hk,SY]at h;revert h;generalize fC x=a;generalize fG x=b;generalize fR x=c;generalize fS x=d;revert a b c d
 decide
def Aqe:FM sCake=Ad (BM 0)++[10]:=by unfold FM BM;rw[Ei];rfl
def Aqh:FM sGoods=Ad (BM 1)++[10]:=by unfold FM BM;rw[Ei];rfl
def Ar0:FM sRent=Ad (BM 2)++[10]:=by unfold FM BM;rw[Ei];rfl
def Aqy:FM sSettle=Ad (BM 3)++[10]:=by unfold FM BM;rw[Ei];rfl
def d10(s:Y_)(h:∀c∈Ad s,c≠10):∀c∈Ad (sDocument++s),c≠10:=fun c hc=>by
 rw[Ei]at hc;rcases List.mem_append.1 hc with h1|h1
 ·exact(by decide:∀c∈Ad sDocument,c≠10) c h1
 ·exact h c h1
end Go.Proofs.YtnljjjghpgdmoaaGreatDoor

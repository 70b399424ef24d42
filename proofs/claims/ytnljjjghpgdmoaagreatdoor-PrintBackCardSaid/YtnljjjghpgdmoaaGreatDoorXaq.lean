import Derived.Test.YtnljjjghpgdmoaaGreatDoorXap
set_option linter.all false
namespace Go.Proofs.YtnljjjghpgdmoaaGreatDoor
open Go.Ev Go.Lib Go.RowKit
set_option maxRecDepth 100000
theorem Akj:∀p,p∈[(70,kU AV),(72,U6 BN BD DJ),(115,UE BN Dy Em)]->DenW Tryz.prog Wd p.1 p.2:=by
 intro p h;simp only[A8,A7,or_false]at h;rcases h with rfl|rfl|rfl
 ·refine den_split.less fun ds rs h=>?_;replace h:kU AV ds=some (true,rs):=h;unfold kU at h;split at h
  ·rename_i s p;simp only[A5,A6,A2,A3]at h;obtain⟨⟨h1,h2⟩,rfl⟩:=h;have e2:p=sSpc:=Ci _ _|>.1 h2;subst e2;show some (decide (s.size<4294967281)&&decide (1<=sSpc.size),[D.slice [.str] (AV s)])=some (true,[D.slice [.str] (AV s)]);rw[A4 h1,show decide (1<=sSpc.size)=true by decide];rfl
  ·cases h
 ·exact UO
 ·exact U9
theorem Adg:P8 (Cno AV BN BD DJ BN Dy Em) Wd:=fun wb hW=>by
 have h:CxAt (AU Tryz.prog fns [(70,kU AV),(72,U6 BN BD DJ),(115,UE BN Dy Em)] []) wb:=(CP enter mixed Akj (fun l h=>by cases h):P8 _ Wd) wb hW;exact{enter:=h.enter,den:=h.den,mixed:=h.mixed,ext:=h.ext,inpl:=h.inpl,loop:=fun f b hb L hL=>by cases hL}
theorem Ij{a b:ByteArray}(h:(Ae a==Ae b)=false):(a.toList==b.toList)=false:=by
 rw[DC,DC];exact h
theorem sU{s:ByteArray}{x:Px}(hPiece:(Ae ((AV s).S 0 0)==Ae sPiece)=false)(hWorth:(Ae ((AV s).S 0 0)==Ae sWorth)=false)(hCake:(Ae ((AV s).S 0 0)==Ae sCake)=false)(hValues:(Ae ((AV s).S 0 0)==Ae sValues)=false)(hGive:(Ae ((AV s).S 0 0)==Ae sGive)=false)(hRent:(Ae ((AV s).S 0 0)==Ae sRent)=false)(hRooms:(Ae ((AV s).S 0 0)==Ae sRooms)=false)(hPrices:(Ae ((AV s).S 0 0)==Ae sPrices)=false)(hBalances:(Ae ((AV s).S 0 0)==Ae sBalances)=false)(hPay:(Ae ((AV s).S 0 0)==Ae sPay)=false)(hClaims:(Ae ((AV s).S 0 0)==Ae sClaims)=false)(hc:Rh s x=true)(J:Value->St->OD):inl (Cno AV BN BD DJ BN Dy Em) 8 28 [bx1,.string s] {τ:=[bx0,bx1],saved:=[],mem:=GM x} (fun v σ=>J v (Cc [0,1] σ))=J (.bool (CJ s x).1) (LD (CJ s x).2):=by
 obtain⟨hc,cz⟩:=Bool.and_eq_true_iff.1 hc;obtain⟨z1,z2,z3,z4,z5,z6,z7⟩:=AD hc;have hn:=Ik s;have hX:CJ s x=(false,x):=by
  unfold CJ AY;rw[hPiece,hWorth,hCake,hValues,hGive,hRent,hRooms,hPrices,hBalances,hPay,hClaims];cases DJ (Bf (AV s))<;>rfl
 rw[hX];refine(Aj0 AV BN BD DJ BN Dy Em J s x.k x.ca x.pi x.pc x.wo x.gv x.aa x.fv x.rr x.lr x.lp x.lpo x.lpn x.ld x.ba x.pa x.cl).trans ?_;generalize hr:AV s=r at*
 have i0:(decide ((0:Int)<=0)&&decide ((0:Int)<(r.n:Int)))=true:=by simp only[A2,A3];omega
 have iF:(decide ((0:Int)<=(r.n:Int))&&decide ((r.n:Int)<=(r.n:Int)))=true:=by simp only[A2,A3];omega
 have i1:(decide ((0:Int)<=1)&&decide ((1:Int)<=(((r.n:Int).toNat:Nat):Int)))=true:=by simp only[A2,A3];omega
 refine Ak (by rw[A4 z1];exact(beq_self_eq_true sSpc.toList:(sSpc.toList==sSpc.toList)=true)) (Ak i0 (Dq (Ij (b:=sPiece) hPiece) (Ak i0 (Dq (Ij (b:=sWorth) hWorth) (Ak iF (Ak i1 (Ak cz ?_)))))));cases hB:DJ (w_ r 1 ((r.n:Int).toNat-1))
 ·exact Ak rfl rfl
 refine Dq rfl ?_;refine Ak i0 (Dq (Ij (b:=sCake) hCake) ?_);refine Ak i0 (Dq (Ij (b:=sValues) hValues) ?_);refine Ak i0 (Dq (Ij (b:=sValues) hValues) ?_);refine Ak i0 (Dq (Ij (b:=sGive) hGive) ?_);refine Ak i0 (Dq (Ij (b:=sRent) hRent) ?_);refine Ak i0 (Dq (Ij (b:=sRooms) hRooms) ?_);refine Ak i0 (Dq (Ij (b:=sPrices) hPrices) ?_);refine Ak i0 (Dq (Ij (b:=sBalances) hBalances) ?_);refine Ak i0 (Dq (Ij (b:=sPay) hPay) ?_);refine Ak i0 (Dq (Ij (b:=sClaims) hClaims) ?_);rfl
def Abi:Option Value->Bool
 |some (.pointer (some ⟨0,0,some 0⟩))=>true
 |_=>false
def Agz:Option Value->Bool
 |some (.pointer (some ⟨1,0,some 0⟩))=>true
 |_=>false
def Ahi(σ:St):Bool:=σ.τ.all qI&&(σ.saved.all (fun τ=>τ.all qI))&&Abi σ.τ[2]? &&Agz σ.τ[7]?
def Ak8:Ed:={τ:=[],saved:=[],mem:=[.box [.v (.c (.int .u8 0)),.v (.c (.slice none 0 0)),.v (.c (.slice none 0 0)),.v (.c (.int .u8 0)),.v (.c (.slice none 0 0)),.v (.c (.slice none 0 0)),.v (.c (.slice none 0 0)),.v (.c (.slice none 0 0)),.v (.c (.int .i64 0)),.v (.c (.slice none 0 0)),.v (.c (.slice none 0 0)),.v (.c (.int .i64 0)),.v (.c (.slice none 0 0)),.v (.c (.slice none 0 0)),.v (.c (.int .u8 0))],.box [.v (.int .u8),.v (.sl 2),.v (.sl 3),.v (.int .u8),.v (.sl 4),.v (.sl 5),.v (.sl 6),.v (.sl 7),.v (.int .i64),.v (.sl 8),.v (.slw 9),.v (.int .i64),.v (.sl 10),.v (.sl 11),.v (.int .u8)],.deep [.int .i64,.slice [.int .i64],.slice [.int .i64]],.deep [.slice [.int .i64,.int .i64,.int .i64,.int .i64]],.deep [.slice [.int .i64,.int .i64]],.deep [.slice [.int .i64]],.row [.int .i64] true,.deep [.slice [.int .i64]],.row [.int .i64] true,.row [.int .i64] true,.row [.int .i64] true,.row [.int .i64,.int .i64,.int .i64] true]}
def pxD:List It->Option (Bool×Px)
 |[.i k,.n can,.n pin,.i pc,.n won,.n gvn,.n aan,.n fvn,.i rr,.n lrn,.n lpo,.n lpn,.i ld,.n ban,.n pan,.i cl,.r ca,.r pi,.r wo,.r gv,.r aa,.r fv,.r lr,.r lp,.r ba,.r pa]=>some (decide (can=ca.n∧pin=pi.n∧won=wo.n∧gvn=gv.n∧aan=aa.n∧fvn=fv.n∧lrn=lr.n∧ban=ba.n∧pan=pa.n),⟨k,ca,pi,pc,wo,gv,aa,fv,rr,lr,lp,lpo,lpn,ld,ba,pa,cl⟩)
 |_=>none
def Adi(m:List (Option Blk)):Option (Bool×Px):=match IV Ak8 {τ:=[],saved:=[],mem:=m}with
 |some its=>pxD its
 |none=>none
theorem qP{m:List (Option Blk)}{x:Px}(h:Adi m=some (true,x)):m=GM x:=by
 unfold Adi at h;split at h
 ·rename_i its hm;have e:=congrArg St.mem (EP hm);unfold pxD at h;split at h
  ·simp only[A5,A6,A3]at h;obtain⟨⟨rfl,rfl,rfl,rfl,rfl,rfl,rfl,rfl,rfl⟩,rfl⟩:=h;exact e.symm
  ·cases h
 ·cases h
def Afc(rc:ByteArray->Px->Bool)(rx:ByteArray->Px->Bool×Px):List Value->St->Option (Bool×Value×St)
 |[.pointer (some ⟨1,0,some 0⟩),.string s],σ=>match Adi σ.mem with
  |some (b,x)=>match Ahi σ with
   |true=>some (b&&rc s x,.bool (rx s x).1,{σ with mem:=GM (rx s x).2})
   |false=>none
  |none=>none
 |_,_=>none
theorem rG{v:Option Value}(h:Abi v=true):v=some bx0:=by
 unfold Abi at h;split at h
 ·rfl
 ·cases h
theorem qQ{v:Option Value}(h:Agz v=true):v=some bx1:=by
 unfold Agz at h;split at h
 ·rfl
 ·cases h
theorem Aev:∀wb,Wd wb->IAt Tryz.prog wb 28 (Afc Rh CJ):=fun wb hW w0 hb args σ v σ1 hF a cs w ρ cargs hR hv=>by
 have hW0:=hW.later hb;unfold Afc at hF;split at hF
 ·rename_i s;split at hF
  ·rename_i b x hp;split at hF
   ·rename_i hfr;simp only[A5,A6,A2]at hF;obtain⟨⟨rfl,hc⟩,rfl,rfl⟩:=hF;have hm:=qP hp;unfold Ahi at hfr;simp only[A2]at hfr;obtain⟨⟨⟨f1,f2⟩,f3⟩,f4⟩:=hfr;have go:∀(C:Cx),C.P=Tryz.prog->CxAt C w0->(∀J:Value->St->OD,inl C 8 28 [bx1,.string s] {τ:=[bx0,bx1],saved:=[],mem:=GM x} (fun v σ=>J v (Cc [0,1] σ))=J (.bool (CJ s x).1) (LD (CJ s x).2))->
      Calls Tryz.prog 28 ⟨cargs⟩ w fun e w'=>∃cv ρ1,e=.returned cv∧Rel w0 {σ with mem:=GM (CJ s x).2} a cs w' ρ1∧V ρ1 (GM (CJ s x).2).length (.bool (CJ s x).1) cv:=fun C hP hC hev=>by
     have:=ZF hC (mem:=GM x) (mem1:=GM (CJ s x).2) (v:=.bool (CJ s x).1) rfl hev hm f1 f2 (rG f3) (qQ f4) (b0:=.box [.int .u8 0,.slice none 0 0,.slice none 0 0,.int .u8 0,.slice none 0 0,.slice none 0 0,.slice none 0 0,.slice none 0 0,i64 0,.slice none 0 0,.slice none 0 0,i64 0,.slice none 0 0,.slice none 0 0,.int .u8 0]) rfl rfl hR hv;rw[hP]at this;exact this
    cases hPiece:Ae ((AV s).S 0 0)==Ae sPiece
    case true=>exact go (Cpi AV BN BD DJ BN Dy Em sPiece) rfl (Abt sPiece w0 hW0) (gK (FT (by simpa using hPiece)) hc)
    cases hWorth:Ae ((AV s).S 0 0)==Ae sWorth
    case true=>exact go (J8 AV BN BD DJ BN Dy Em sWorth) rfl (Gw sWorth w0 hW0) (aG (FT (by simpa using hWorth)) hc)
    cases hCake:Ae ((AV s).S 0 0)==Ae sCake
    case true=>exact go (J8 AV BN BD DJ BN Dy Em sCake) rfl (Gw sCake w0 hW0) (rW (FT (by simpa using hCake)) hc)
    cases hValues:Ae ((AV s).S 0 0)==Ae sValues
    case true=>exact go (J8 AV BN BD DJ BN Dy Em sValues) rfl (Gw sValues w0 hW0) (Yj (FT (by simpa using hValues)) hc)
    cases hGive:Ae ((AV s).S 0 0)==Ae sGive
    case true=>exact go (J8 AV BN BD DJ BN Dy Em sGive) rfl (Gw sGive w0 hW0) (vZ (FT (by simpa using hGive)) hc)
    cases hRent:Ae ((AV s).S 0 0)==Ae sRent
    case true=>exact go (J8 AV BN BD DJ BN Dy Em sRent) rfl (Gw sRent w0 hW0) (wB (FT (by simpa using hRent)) hc)
    cases hRooms:Ae ((AV s).S 0 0)==Ae sRooms
    case true=>exact go (J8 AV BN BD DJ BN Dy Em sRooms) rfl (Gw sRooms w0 hW0) (fZ (FT (by simpa using hRooms)) hc)
    cases hPrices:Ae ((AV s).S 0 0)==Ae sPrices
    case true=>exact go (J8 AV BN BD DJ BN Dy Em sPrices) rfl (Gw sPrices w0 hW0) (Yr (FT (by simpa using hPrices)) hc)
    cases hBalances:Ae ((AV s).S 0 0)==Ae sBalances
    case true=>exact go (J8 AV BN BD DJ BN Dy Em sBalances) rfl (Gw sBalances w0 hW0) (U0 (FT (by simpa using hBalances)) hc)
    cases hPay:Ae ((AV s).S 0 0)==Ae sPay
    case true=>exact go (J8 AV BN BD DJ BN Dy Em sPay) rfl (Gw sPay w0 hW0) (Ae7 (FT (by simpa using hPay)) hc)
    cases hClaims:Ae ((AV s).S 0 0)==Ae sClaims
    case true=>exact go (J8 AV BN BD DJ BN Dy Em sClaims) rfl (Gw sClaims w0 hW0) (Y4 (FT (by simpa using hClaims)) hc)
    exact go (Cno AV BN BD DJ BN Dy Em) rfl (Adg w0 hW0) (sU hPiece hWorth hCake hValues hGive hRent hRooms hPrices hBalances hPay hClaims hc)
   ·cases hF
  ·cases hF
 ·cases hF
def Ah7(o r:ByteArray->ByteArray):FD
 |[.v (.string s),.v (.string p)]=>some (decide (s.size<4294967281)&&(p.toList==sNl.toList),[.v (.string (o s)),.v (.string (r s)),.v (.bool (Lib.cut (Ae s) (Ae p)).2.2)])
 |_=>none
structure Pa where
 rest:ByteArray
 p:Px
def Ahy(s:ByteArray)(k:Int)(can pin:Nat)(pc:Int)(won gvn aan fvn:Nat)(rr:Int)(lrn lpo lpn:Nat)(ld:Int)(ban pan:Nat)(cl:Int)(ca pi wo gv aa fv lr lp ba pa:Row):St:=⟨[.string s]++us 1++[.pointer (some ⟨0,0,some 0⟩),i64 12]++us 3++[.pointer (some ⟨1,0,some 0⟩)]++us 58,[[]],[some (.box [.int .u8 0,.slice none 0 0,.slice none 0 0,.int .u8 0,.slice none 0 0,.slice none 0 0,.slice none 0 0,.slice none 0 0,i64 0,.slice none 0 0,.slice none 0 0,i64 0,.slice none 0 0,.slice none 0 0,.int .u8 0]),some (.box [.int .u8 k,S_ 2 0 can,S_ 3 0 pin,.int .u8 pc,S_ 4 0 won,S_ 5 0 gvn,S_ 6 0 aan,S_ 7 0 fvn,i64 rr,S_ 8 0 lrn,S_ 9 lpo lpn,i64 ld,S_ 10 0 ban,S_ 11 0 pan,.int .u8 cl]),some (.deep [.int .i64,.slice [.int .i64],.slice [.int .i64]] ca none),some (.deep [.slice [.int .i64,.int .i64,.int .i64,.int .i64]] pi none),some (.deep [.slice [.int .i64,.int .i64]] wo none),some (.deep [.slice [.int .i64]] gv none),some (.row [.int .i64] true aa),some (.deep [.slice [.int .i64]] fv none),some (.row [.int .i64] true lr),some (.row [.int .i64] true lp),some (.row [.int .i64] true ba),some (.row [.int .i64,.int .i64,.int .i64] true pa)]⟩
def Aiq(s:ByteArray)(k:Int)(can pin:Nat)(pc:Int)(won gvn aan fvn:Nat)(rr:Int)(lrn lpo lpn:Nat)(ld:Int)(ban pan:Nat)(cl:Int)(ca pi wo gv aa fv lr lp ba pa:Row):St:=⟨[.string s]++us 1++[.pointer (some ⟨0,0,some 0⟩)]++us 4++[.pointer (some ⟨1,0,some 0⟩)]++us 58,[[]],[some (.box [.int .u8 0,.slice none 0 0,.slice none 0 0,.int .u8 0,.slice none 0 0,.slice none 0 0,.slice none 0 0,.slice none 0 0,i64 0,.slice none 0 0,.slice none 0 0,i64 0,.slice none 0 0,.slice none 0 0,.int .u8 0]),some (.box [.int .u8 k,S_ 2 0 can,S_ 3 0 pin,.int .u8 pc,S_ 4 0 won,S_ 5 0 gvn,S_ 6 0 aan,S_ 7 0 fvn,i64 rr,S_ 8 0 lrn,S_ 9 lpo lpn,i64 ld,S_ 10 0 ban,S_ 11 0 pan,.int .u8 cl]),some (.deep [.int .i64,.slice [.int .i64],.slice [.int .i64]] ca none),some (.deep [.slice [.int .i64,.int .i64,.int .i64,.int .i64]] pi none),some (.deep [.slice [.int .i64,.int .i64]] wo none),some (.deep [.slice [.int .i64]] gv none),some (.row [.int .i64] true aa),some (.deep [.slice [.int .i64]] fv none),some (.row [.int .i64] true lr),some (.row [.int .i64] true lp),some (.row [.int .i64] true ba),some (.row [.int .i64,.int .i64,.int .i64] true pa)]⟩
def Aks(s:ByteArray)(p:Px):St:=Ahy s p.k p.ca.n p.pi.n p.pc p.wo.n p.gv.n p.aa.n p.fv.n p.rr p.lr.n p.lpo p.lpn p.ld p.ba.n p.pa.n p.cl p.ca p.pi p.wo p.gv p.aa p.fv p.lr p.lp p.ba p.pa
def Aka(s:ByteArray)(p:Px):St:=Aiq s p.k p.ca.n p.pi.n p.pc p.wo.n p.gv.n p.aa.n p.fv.n p.rr p.lr.n p.lpo p.lpn p.ld p.ba.n p.pa.n p.cl p.ca p.pi p.wo p.gv p.aa p.fv p.lr p.lp p.ba p.pa
def SzP(p:Px)(j:Nat):Prop:=p.ca.n<=j∧p.pi.n<=j∧p.wo.n<=j∧p.gv.n<=j∧p.fv.n<=j∧p.pa.n<=j
instance(p:Px)(j:Nat):Decidable (SzP p j):=by unfold SzP;infer_instance
theorem SzP.rd{p:Px}{j:Nat}(h:SzP p j)(w:List UInt8)(r:Row):SzP (AY w r p).2 (j+1):=by
 obtain⟨h1,h2,h3,h4,h5,h6⟩:=h;have g1:p.ca.n<=j+1:=by omega
 have g2:p.pi.n<=j+1:=by omega
 have g3:p.wo.n<=j+1:=by omega
 have g4:p.gv.n<=j+1:=by omega
 have g5:p.fv.n<=j+1:=by omega
 have g6:p.pa.n<=j+1:=by omega
 have same:SzP p (j+1):=⟨g1,g2,g3,g4,g5,g6⟩;have bc:∀(b:Bool)(x z:Bool×Px),SzP x.2 (j+1)->SzP z.2 (j+1)->SzP (bif b then x else z).2 (j+1):=fun b x z hx hz=>by cases b<;>assumption
 have bp:∀(b:Bool)(x z:Px),SzP x (j+1)->SzP z (j+1)->SzP (bif b then x else z) (j+1):=fun b x z hx hz=>by cases b<;>assumption
 unfold AY;refine bc _ _ _ (bc _ _ _ ⟨g1,Nat.succ_le_succ h2,g3,g4,g5,g6⟩ same) (bc _ _ _ (bc _ _ _ ⟨g1,g2,Nat.succ_le_succ h3,g4,g5,g6⟩ same) (bc _ _ _ same (bc _ _ _ (bc _ _ _ ⟨Nat.succ_le_succ h1,g2,g3,g4,g5,g6⟩ same)
  (bc _ _ _ (bp _ _ _ ⟨g1,g2,g3,Nat.succ_le_succ h4,g5,g6⟩ ⟨g1,g2,g3,g4,Nat.succ_le_succ h5,g6⟩) (bc _ _ _ same (bc _ _ _ (bc _ _ _ same same) (bc _ _ _ same (bc _ _ _ (bc _ _ _ same same) (bc _ _ _ same (bc _ _ _ (bc _ _ _ ⟨g1,g2,g3,g4,g5,Nat.succ_le_succ h6⟩ same) (bc _ _ _ (bc _ _ _ (bp _ _ _ same same) same) same)))))))))))
theorem pieces_len(k:UInt8):∀l:List UInt8,(Ln.pieces k l).length<=l.length+1∧∀p∈Ln.pieces k l,p.length<=l.length
 |[]=>by
  rw[Ln.pieces_none k [] (fun c hc=>by cases hc)];exact⟨AC _,fun p hp=>by simp at hp;rw[hp];exact AC _⟩
 |c::l=>by
  obtain⟨h1,h2⟩:=pieces_len k l;by_cases hc:c=k
  ·subst hc;rw[show c::l=[]++c::l from rfl,Ln.pieces_app c [] l (fun x hx=>by cases hx)];refine⟨by simp;omega,fun p hp=>?_⟩;rcases A8.1 hp with rfl|hp
   ·simp
   ·have:=h2 p hp;simp;omega
  ·have e:Ln.pieces k (c::l)=(match Ln.pieces k l with|[]=>[[c]]|p::ps=>(c::p)::ps):=by
    rw[Ln.pieces_sp k (c::l),Ln.pieces_sp k l];have es:Ln.sp k (c::l)=(c::(Ln.sp k l).1,(Ln.sp k l).2):=by
     show(if c=k then _ else _)=_;rw[AL hc]
    rw[es]
   have hne:=Ln.pieces_ne k l;rw[e];cases hp:Ln.pieces k l with
   |nil=>exact absurd hp hne
   |cons p ps=>
    rw[hp]at h1 h2;refine⟨by simp at h1⊢;omega,fun q hq=>?_⟩;rcases A8.1 hq with rfl|hq
    ·have:=h2 p (List.mem_cons_self ..);simp;omega
    ·have:=h2 q (List.mem_cons_of_mem _ hq);simp;omega
theorem Xi{s:ByteArray}(h:s.size<=100000):BN (Bf (AV s))=true:=by
 have h1:=Ln.splS_pieces 32 s.size s (AC _);obtain⟨p1,p2⟩:=pieces_len 32 (Ae s);have hs:(Ae s).length=s.size:=rfl;have h2:(CS s sSpc).length=(Ln.pieces 32 (Ae s)).length:=by
  rw[<-h1,List.length_map];rfl
 have hn:(AV s).n=(CS s sSpc).length:=rfl;have ht:(Bf (AV s)).n=(AV s).n-1:=wn_;refine VR (by omega) fun i hi=>?_;have e:(Bf (AV s)).S i 0=(CS s sSpc).getD (1+i) .empty:=Xx (AV s) 1 ((AV s).n-1) i 0;rw[e];have hl:1+i<(CS s sSpc).length:=by omega
 have hm:(CS s sSpc).getD (1+i) .empty∈CS s sSpc:=by
  rw[List.getD_eq_getElem?_getD,AK hl];exact List.getElem_mem hl
 have h3:Ae ((CS s sSpc).getD (1+i) .empty)∈Ln.pieces 32 (Ae s):=by
  rw[<-h1];exact List.mem_map_of_mem (f:=Ae) hm
 have h4:=p2 _ h3;have h5:(Ae ((CS s sSpc).getD (1+i) .empty)).length=((CS s sSpc).getD (1+i) .empty).size:=rfl;omega
theorem Agy{s:ByteArray}{p:Px}{j:Nat}(hs:s.size<=100000)(hp:SzP p j)(hj:j<=1000000):Rh s p=true:=by
 obtain⟨h1,h2,h3,h4,h5,h6⟩:=hp;exact Bool.and_eq_true_iff.2 ⟨A4 ⟨by omega,by omega,by omega,by omega,by omega,by omega,by omega⟩,Xi hs⟩
def kV:Ed:={τ:=[.v (.str)]++pu 1++[.v (.c (.pointer (some ⟨0,0,some 0⟩)))]++pu 2++[.v (.str)]++pu 1++[.v (.c (.pointer (some ⟨1,0,some 0⟩)))]++pu 58,saved:=[[]],mem:=[.box [.v (.c (.int .u8 0)),.v (.c (.slice none 0 0)),.v (.c (.slice none 0 0)),.v (.c (.int .u8 0)),.v (.c (.slice none 0 0)),.v (.c (.slice none 0 0)),.v (.c (.slice none 0 0)),.v (.c (.slice none 0 0)),.v (.c (.int .i64 0)),.v (.c (.slice none 0 0)),.v (.c (.slice none 0 0)),.v (.c (.int .i64 0)),.v (.c (.slice none 0 0)),.v (.c (.slice none 0 0)),.v (.c (.int .u8 0))],.box [.v (.int .u8),.v (.sl 2),.v (.sl 3),.v (.int .u8),.v (.sl 4),.v (.sl 5),.v (.sl 6),.v (.sl 7),.v (.int .i64),.v (.sl 8),.v (.slw 9),.v (.int .i64),.v (.sl 10),.v (.sl 11),.v (.int .u8)],.deep [.int .i64,.slice [.int .i64],.slice [.int .i64]],.deep [.slice [.int .i64,.int .i64,.int .i64,.int .i64]],.deep [.slice [.int .i64,.int .i64]],.deep [.slice [.int .i64]],.row [.int .i64] true,.deep [.slice [.int .i64]],.row [.int .i64] true,.row [.int .i64] true,.row [.int .i64] true,.row [.int .i64,.int .i64,.int .i64] true]}
structure A_lpl where
 s:ByteArray
 rest:ByteArray
 k:Int
 can:Nat
 pin:Nat
 pc:Int
 won:Nat
 gvn:Nat
 aan:Nat
 fvn:Nat
 rr:Int
 lrn:Nat
 lpo:Nat
 lpn:Nat
 ld:Int
 ban:Nat
 pan:Nat
 cl:Int
 ca:Row
 pi:Row
 wo:Row
 gv:Row
 aa:Row
 fv:Row
 lr:Row
 lp:Row
 ba:Row
 pa:Row
def kT(its:List It):Option A_lpl:=match its with|[.s s,.s rest,.i k,.n can,.n pin,.i pc,.n won,.n gvn,.n aan,.n fvn,.i rr,.n lrn,.n lpo,.n lpn,.i ld,.n ban,.n pan,.i cl,.r ca,.r pi,.r wo,.r gv,.r aa,.r fv,.r lr,.r lp,.r ba,.r pa]=>some ⟨s,rest,k,can,pin,pc,won,gvn,aan,fvn,rr,lrn,lpo,lpn,ld,ban,pan,cl,ca,pi,wo,gv,aa,fv,lr,lp,ba,pa⟩|_=>none
def Xa(x:A_lpl):Bool:=x.can=x.ca.n∧x.pin=x.pi.n∧x.won=x.wo.n∧x.gvn=x.gv.n∧x.aan=x.aa.n∧x.fvn=x.fv.n∧x.lrn=x.lr.n∧x.ban=x.ba.n∧x.pan=x.pa.n∧x.rest.size<=100000∧SzP ⟨x.k,x.ca,x.pi,x.pc,x.wo,x.gv,x.aa,x.fv,x.rr,x.lr,x.lp,x.lpo,x.lpn,x.ld,x.ba,x.pa,x.cl⟩ 0
def c_lpl_iff{x:A_lpl}:=@BC _ Xa _ _ rfl x
def lpl:RunL A_lpl (Pa):=⟨8,11,[0,2,5,7,2193611276810007,137081043860007,535477160007,33471410007,125500007,33471430007,125530007,125540007,125560007,32156290007],[0,2,3,7],kV,kT,fun x j a=>[.s x.s,.s a.rest,.i a.p.k,.n a.p.ca.n,.n a.p.pi.n,.i a.p.pc,.n a.p.wo.n,.n a.p.gv.n,.n a.p.aa.n,.n a.p.fv.n,.i a.p.rr,.n a.p.lr.n,.n a.p.lpo,.n a.p.lpn,.i a.p.ld,.n a.p.ba.n,.n a.p.pa.n,.i a.p.cl,.r a.p.ca,.r a.p.pi,.r a.p.wo,.r a.p.gv,.r a.p.aa,.r a.p.fv,.r a.p.lr,.r a.p.lp,.r a.p.ba,.r a.p.pa],fun x=>Ln.lnN x.rest,Xa,fun x=>⟨x.rest,⟨x.k,x.ca,x.pi,x.pc,x.wo,x.gv,x.aa,x.fv,x.rr,x.lr,x.lp,x.lpo,x.lpn,x.ld,x.ba,x.pa,x.cl⟩⟩,fun x j a=> !(CJ (Ln.oneB a.rest) a.p).1,fun x j a=>⟨Ln.restB a.rest,(CJ (Ln.oneB a.rest) a.p).2⟩,fun x j a K=>K .ret (Aks x.s (CJ (Ln.oneB a.rest) a.p).2),fun x a K=>K (.exit 2) (Aka x.s a.p)⟩
noncomputable def Cpa(LL:List LoopC)(oB rB:ByteArray->ByteArray)(rc:ByteArray->Px->Bool)(rx:ByteArray->Px->Bool×Px)(tc:Dc->Bool)(tS:Dc->ByteArray)(tE:Dc->Int):Cx:=AU Tryz.prog fns [(27,Ah7 oB rB),(6,V4 tc tS tE)] LL [] [(28,Afc rc rx)]
theorem Aao(LL:List LoopC)(oB rB:ByteArray->ByteArray)(rc:ByteArray->Px->Bool)(rx:ByteArray->Px->Bool×Px)(tc:Dc->Bool)(tS:Dc->ByteArray)(tE:Dc->Int)(R:St->OD)(K:X->St->OD)(q:Nat)(s rest:ByteArray)(k:Int)(can pin:Nat)(pc:Int)(won gvn aan fvn:Nat)(rr:Int)(lrn lpo lpn:Nat)(ld:Int)(ban pan:Nat)(cl:Int)(ca pi wo gv aa fv lr lp ba pa:Row):Ar (Cpa LL oB rB rc rx tc tS tE) 8 11 q (bst kV [.s s,.s rest,.i k,.n can,.n pin,.i pc,.n won,.n gvn,.n aan,.n fvn,.i rr,.n lrn,.n lpo,.n lpn,.i ld,.n ban,.n pan,.i cl,.r ca,.r pi,.r wo,.r gv,.r aa,.r fv,.r lr,.r lp,.r ba,.r pa]) (BI [0,2,5,7,2193611276810007,137081043860007,535477160007,33471410007,125500007,33471430007,125530007,125540007,125560007,32156290007] (some [0,2,3,7]) R K)=br (!rest.toList=={data:={toList:=[]:Array UInt8}:ByteArray}.toList) (br (rest.size<4294967281&&{data:={toList:=[10]:Array UInt8}:ByteArray}.toList==sNl.toList) (br (decide (can=ca.n∧pin=pi.n∧won=wo.n∧gvn=gv.n∧aan=aa.n∧fvn=fv.n∧lrn=lr.n∧ban=ba.n∧pan=pa.n)&&rc (oB rest) (⟨k,ca,pi,pc,wo,gv,aa,fv,rr,lr,lp,lpo,lpn,ld,ba,pa,cl⟩:Px)) (br (!(rx (oB rest) (⟨k,ca,pi,pc,wo,gv,aa,fv,rr,lr,lp,lpo,lpn,ld,ba,pa,cl⟩:Px)).1) (K .ret (Ahy s ((rx (oB rest) (⟨k,ca,pi,pc,wo,gv,aa,fv,rr,lr,lp,lpo,lpn,ld,ba,pa,cl⟩:Px)).2.k) ((rx (oB rest) (⟨k,ca,pi,pc,wo,gv,aa,fv,rr,lr,lp,lpo,lpn,ld,ba,pa,cl⟩:Px)).2.ca.n) ((rx (oB rest) (⟨k,ca,pi,pc,wo,gv,aa,fv,rr,lr,lp,lpo,lpn,ld,ba,pa,cl⟩:Px)).2.pi.n) ((rx (oB rest) (⟨k,ca,pi,pc,wo,gv,aa,fv,rr,lr,lp,lpo,lpn,ld,ba,pa,cl⟩:Px)).2.pc) ((rx (oB rest) (⟨k,ca,pi,pc,wo,gv,aa,fv,rr,lr,lp,lpo,lpn,ld,ba,pa,cl⟩:Px)).2.wo.n) ((rx (oB rest) (⟨k,ca,pi,pc,wo,gv,aa,fv,rr,lr,lp,lpo,lpn,ld,ba,pa,cl⟩:Px)).2.gv.n) ((rx (oB rest) (⟨k,ca,pi,pc,wo,gv,aa,fv,rr,lr,lp,lpo,lpn,ld,ba,pa,cl⟩:Px)).2.aa.n) ((rx (oB rest) (⟨k,ca,pi,pc,wo,gv,aa,fv,rr,lr,lp,lpo,lpn,ld,ba,pa,cl⟩:Px)).2.fv.n) ((rx (oB rest) (⟨k,ca,pi,pc,wo,gv,aa,fv,rr,lr,lp,lpo,lpn,ld,ba,pa,cl⟩:Px)).2.rr) ((rx (oB rest) (⟨k,ca,pi,pc,wo,gv,aa,fv,rr,lr,lp,lpo,lpn,ld,ba,pa,cl⟩:Px)).2.lr.n) ((rx (oB rest) (⟨k,ca,pi,pc,wo,gv,aa,fv,rr,lr,lp,lpo,lpn,ld,ba,pa,cl⟩:Px)).2.lpo) ((rx (oB rest) (⟨k,ca,pi,pc,wo,gv,aa,fv,rr,lr,lp,lpo,lpn,ld,ba,pa,cl⟩:Px)).2.lpn) ((rx (oB rest) (⟨k,ca,pi,pc,wo,gv,aa,fv,rr,lr,lp,lpo,lpn,ld,ba,pa,cl⟩:Px)).2.ld) ((rx (oB rest) (⟨k,ca,pi,pc,wo,gv,aa,fv,rr,lr,lp,lpo,lpn,ld,ba,pa,cl⟩:Px)).2.ba.n) ((rx (oB rest) (⟨k,ca,pi,pc,wo,gv,aa,fv,rr,lr,lp,lpo,lpn,ld,ba,pa,cl⟩:Px)).2.pa.n) ((rx (oB rest) (⟨k,ca,pi,pc,wo,gv,aa,fv,rr,lr,lp,lpo,lpn,ld,ba,pa,cl⟩:Px)).2.cl) ((rx (oB rest) (⟨k,ca,pi,pc,wo,gv,aa,fv,rr,lr,lp,lpo,lpn,ld,ba,pa,cl⟩:Px)).2.ca) ((rx (oB rest) (⟨k,ca,pi,pc,wo,gv,aa,fv,rr,lr,lp,lpo,lpn,ld,ba,pa,cl⟩:Px)).2.pi) ((rx (oB rest) (⟨k,ca,pi,pc,wo,gv,aa,fv,rr,lr,lp,lpo,lpn,ld,ba,pa,cl⟩:Px)).2.wo) ((rx (oB rest) (⟨k,ca,pi,pc,wo,gv,aa,fv,rr,lr,lp,lpo,lpn,ld,ba,pa,cl⟩:Px)).2.gv) ((rx (oB rest) (⟨k,ca,pi,pc,wo,gv,aa,fv,rr,lr,lp,lpo,lpn,ld,ba,pa,cl⟩:Px)).2.aa) ((rx (oB rest) (⟨k,ca,pi,pc,wo,gv,aa,fv,rr,lr,lp,lpo,lpn,ld,ba,pa,cl⟩:Px)).2.fv) ((rx (oB rest) (⟨k,ca,pi,pc,wo,gv,aa,fv,rr,lr,lp,lpo,lpn,ld,ba,pa,cl⟩:Px)).2.lr) ((rx (oB rest) (⟨k,ca,pi,pc,wo,gv,aa,fv,rr,lr,lp,lpo,lpn,ld,ba,pa,cl⟩:Px)).2.lp) ((rx (oB rest) (⟨k,ca,pi,pc,wo,gv,aa,fv,rr,lr,lp,lpo,lpn,ld,ba,pa,cl⟩:Px)).2.ba) ((rx (oB rest) (⟨k,ca,pi,pc,wo,gv,aa,fv,rr,lr,lp,lpo,lpn,ld,ba,pa,cl⟩:Px)).2.pa))) (R (bst kV [.s s,.s (rB rest),.i ((rx (oB rest) (⟨k,ca,pi,pc,wo,gv,aa,fv,rr,lr,lp,lpo,lpn,ld,ba,pa,cl⟩:Px)).2.k),.n ((rx (oB rest) (⟨k,ca,pi,pc,wo,gv,aa,fv,rr,lr,lp,lpo,lpn,ld,ba,pa,cl⟩:Px)).2.ca.n),.n ((rx (oB rest) (⟨k,ca,pi,pc,wo,gv,aa,fv,rr,lr,lp,lpo,lpn,ld,ba,pa,cl⟩:Px)).2.pi.n),.i ((rx (oB rest) (⟨k,ca,pi,pc,wo,gv,aa,fv,rr,lr,lp,lpo,lpn,ld,ba,pa,cl⟩:Px)).2.pc),.n ((rx (oB rest) (⟨k,ca,pi,pc,wo,gv,aa,fv,rr,lr,lp,lpo,lpn,ld,ba,pa,cl⟩:Px)).2.wo.n),.n ((rx (oB rest) (⟨k,ca,pi,pc,wo,gv,aa,fv,rr,lr,lp,lpo,lpn,ld,ba,pa,cl⟩:Px)).2.gv.n),.n ((rx (oB rest) (⟨k,ca,pi,pc,wo,gv,aa,fv,rr,lr,lp,lpo,lpn,ld,ba,pa,cl⟩:Px)).2.aa.n),.n ((rx (oB rest) (⟨k,ca,pi,pc,wo,gv,aa,fv,rr,lr,lp,lpo,lpn,ld,ba,pa,cl⟩:Px)).2.fv.n),.i ((rx (oB rest) (⟨k,ca,pi,pc,wo,gv,aa,fv,rr,lr,lp,lpo,lpn,ld,ba,pa,cl⟩:Px)).2.rr),.n ((rx (oB rest) (⟨k,ca,pi,pc,wo,gv,aa,fv,rr,lr,lp,lpo,lpn,ld,ba,pa,cl⟩:Px)).2.lr.n),.n ((rx (oB rest) (⟨k,ca,pi,pc,wo,gv,aa,fv,rr,lr,lp,lpo,lpn,ld,ba,pa,cl⟩:Px)).2.lpo),.n ((rx (oB rest) (⟨k,ca,pi,pc,wo,gv,aa,fv,rr,lr,lp,lpo,lpn,ld,ba,pa,cl⟩:Px)).2.lpn),.i ((rx (oB rest) (⟨k,ca,pi,pc,wo,gv,aa,fv,rr,lr,lp,lpo,lpn,ld,ba,pa,cl⟩:Px)).2.ld),.n ((rx (oB rest) (⟨k,ca,pi,pc,wo,gv,aa,fv,rr,lr,lp,lpo,lpn,ld,ba,pa,cl⟩:Px)).2.ba.n),.n ((rx (oB rest) (⟨k,ca,pi,pc,wo,gv,aa,fv,rr,lr,lp,lpo,lpn,ld,ba,pa,cl⟩:Px)).2.pa.n),.i ((rx (oB rest) (⟨k,ca,pi,pc,wo,gv,aa,fv,rr,lr,lp,lpo,lpn,ld,ba,pa,cl⟩:Px)).2.cl),.r ((rx (oB rest) (⟨k,ca,pi,pc,wo,gv,aa,fv,rr,lr,lp,lpo,lpn,ld,ba,pa,cl⟩:Px)).2.ca),.r ((rx (oB rest) (⟨k,ca,pi,pc,wo,gv,aa,fv,rr,lr,lp,lpo,lpn,ld,ba,pa,cl⟩:Px)).2.pi),.r ((rx (oB rest) (⟨k,ca,pi,pc,wo,gv,aa,fv,rr,lr,lp,lpo,lpn,ld,ba,pa,cl⟩:Px)).2.wo),.r ((rx (oB rest) (⟨k,ca,pi,pc,wo,gv,aa,fv,rr,lr,lp,lpo,lpn,ld,ba,pa,cl⟩:Px)).2.gv),.r ((rx (oB rest) (⟨k,ca,pi,pc,wo,gv,aa,fv,rr,lr,lp,lpo,lpn,ld,ba,pa,cl⟩:Px)).2.aa),.r ((rx (oB rest) (⟨k,ca,pi,pc,wo,gv,aa,fv,rr,lr,lp,lpo,lpn,ld,ba,pa,cl⟩:Px)).2.fv),.r ((rx (oB rest) (⟨k,ca,pi,pc,wo,gv,aa,fv,rr,lr,lp,lpo,lpn,ld,ba,pa,cl⟩:Px)).2.lr),.r ((rx (oB rest) (⟨k,ca,pi,pc,wo,gv,aa,fv,rr,lr,lp,lpo,lpn,ld,ba,pa,cl⟩:Px)).2.lp),.r ((rx (oB rest) (⟨k,ca,pi,pc,wo,gv,aa,fv,rr,lr,lp,lpo,lpn,ld,ba,pa,cl⟩:Px)).2.ba),.r ((rx (oB rest) (⟨k,ca,pi,pc,wo,gv,aa,fv,rr,lr,lp,lpo,lpn,ld,ba,pa,cl⟩:Px)).2.pa)]))) none) none) (K (.exit 2) (Aiq s k can pin pc won gvn aan fvn rr lrn lpo lpn ld ban pan cl ca pi wo gv aa fv lr lp ba pa)):=by kernel_rfl
theorem Afb(LL:List LoopC)(tc:Dc->Bool)(tS:Dc->ByteArray)(tE:Dc->Int):Ai (Cpa LL Ln.oneB Ln.restB Rh CJ tc tS tE) lpl.C:=lpl.ok ((fun x j a=>Ln.lnN a.rest+j=Ln.lnN x.rest∧a.rest.size<=x.rest.size∧SzP a.p j)) (by kernel_rfl)
 (fun its x h hc=>by
  replace h:kT its=some x:=h;unfold kT at h;split at h
  ·cases h;obtain⟨h1,h2,h3,h4,h5,h6,h7,h8,h9,h10,h11⟩:=c_lpl_iff.1 hc;dsimp only at h1 h2 h3 h4 h5 h6 h7 h8 h9;subst h1 h2 h3 h4 h5 h6 h7 h8 h9;rfl
  ·cases h)
 (fun x hc=>by have:=c_lpl_iff.1 hc;have:=Ln.lnN_le x.rest;show Ln.lnN x.rest<18446744073709551616;omega)
 (fun x hc=>by
  have g:=(c_lpl_iff.1 hc).2.2.2.2.2.2.2.2.2;exact⟨rfl,AC _,g.2⟩)
 (fun x j a hc hi hI hs=>by
  have hi':j<Ln.lnN x.rest:=hi;have hne:Ae a.rest≠[]:=fun hz=>by have:=Ln.lnN_nil hz;have:=hI.1;omega
  have e1:=Ln.lnN_rest hne;have e2:=Ln.rest_le a.rest;refine⟨?_,Nat.le_trans e2 hI.2.1,hI.2.2.rd _ _⟩;have:=hI.1;show Ln.lnN (Ln.restB a.rest)+(j+1)=_;omega)
 (fun q ⟨s,rest0,k0,can0,pin0,pc0,won0,gvn0,aan0,fvn0,rr0,lrn0,lpo0,lpn0,ld0,ban0,pan0,cl0,ca0,pi0,wo0,gv0,aa0,fv0,lr0,lp0,ba0,pa0⟩ j a hc hi hI R K=>by
  obtain⟨h1,h2,h3,h4,h5,h6,h7,h8,h9,h10,h11⟩:=c_lpl_iff.1 hc;dsimp only at*
  replace hi:j<Ln.lnN rest0:=hi;refine(Aao LL Ln.oneB Ln.restB Rh CJ tc tS tE R K q s ((a.rest)) ((a.p.k)) ((a.p.ca.n)) ((a.p.pi.n)) ((a.p.pc)) ((a.p.wo.n)) ((a.p.gv.n)) ((a.p.aa.n)) ((a.p.fv.n)) ((a.p.rr)) ((a.p.lr.n)) ((a.p.lpo)) ((a.p.lpn)) ((a.p.ld)) ((a.p.ba.n)) ((a.p.pa.n)) ((a.p.cl)) ((a.p.ca)) ((a.p.pi)) ((a.p.wo)) ((a.p.gv)) ((a.p.aa)) ((a.p.fv)) ((a.p.lr)) ((a.p.lp)) ((a.p.ba)) ((a.p.pa))).trans ?_;have hne:Ae a.rest≠[]:=fun hz=>by have:=Ln.lnN_nil hz;have:=hI.1;omega
  have hI2:a.rest.size<=rest0.size:=hI.2.1;have hln:=Ln.lnN_le rest0;have c1:(!a.rest.toList==({data:={toList:=[]:Array UInt8}:ByteArray}).toList)=true:=by
   rw[DC,DC,Bool.not_eq_true'];cases hb:Ae a.rest with
   |nil=>exact absurd hb hne
   |cons c l=>rfl
  have c2:(decide (a.rest.size<4294967281)&&({data:={toList:=[10]:Array UInt8}:ByteArray}).toList==sNl.toList)=true:=Bool.and_eq_true_iff.2 ⟨A4 (by omega),(beq_self_eq_true sNl.toList:(sNl.toList==sNl.toList)=true)⟩;refine Ak c1 (Ak c2 (Ak (Bool.and_eq_true_iff.2 ⟨A4 ⟨rfl,rfl,rfl,rfl,rfl,rfl,rfl,rfl,rfl⟩,Agy (s:=Ln.oneB a.rest) (p:=a.p) (by have:=Ln.one_size a.rest;omega) hI.2.2 (by omega)⟩) ?_));rfl)
 (fun q ⟨s,rest0,k0,can0,pin0,pc0,won0,gvn0,aan0,fvn0,rr0,lrn0,lpo0,lpn0,ld0,ban0,pan0,cl0,ca0,pi0,wo0,gv0,aa0,fv0,lr0,lp0,ba0,pa0⟩ a hc hI R K=>by
  obtain⟨h1,h2,h3,h4,h5,h6,h7,h8,h9,h10,h11⟩:=c_lpl_iff.1 hc;dsimp only at*
  refine(Aao LL Ln.oneB Ln.restB Rh CJ tc tS tE R K q s ((a.rest)) ((a.p.k)) ((a.p.ca.n)) ((a.p.pi.n)) ((a.p.pc)) ((a.p.wo.n)) ((a.p.gv.n)) ((a.p.aa.n)) ((a.p.fv.n)) ((a.p.rr)) ((a.p.lr.n)) ((a.p.lpo)) ((a.p.lpn)) ((a.p.ld)) ((a.p.ba.n)) ((a.p.pa.n)) ((a.p.cl)) ((a.p.ca)) ((a.p.pi)) ((a.p.wo)) ((a.p.gv)) ((a.p.aa)) ((a.p.fv)) ((a.p.lr)) ((a.p.lp)) ((a.p.ba)) ((a.p.pa))).trans ?_;have h0:Ln.lnN a.rest=0:=by have hh:Ln.lnN a.rest+Ln.lnN rest0=Ln.lnN rest0:=hI.1;omega
  have hz:=Ln.lnN_zero h0;refine Dq ?_ rfl;rw[DC,DC,hz];rfl)
def dZ:Dc:=⟨0,.nil,.nil,0,.nil,.nil,.nil,.nil,0,.nil,.nil,0,.nil,.nil,0⟩
def LY(hd:ByteArray):Int:=AP (fun j a=>bif hd.toList==(Ej j).toList then(j:Int)+1 else a) 4 0 0
def oZ(s rest:ByteArray)(k:Int):A_lpl:={s:=s,rest:=rest,k:=k,can:=0,pin:=0,pc:=0,won:=0,gvn:=0,aan:=0,fvn:=0,rr:=0,lrn:=0,lpo:=0,lpn:=0,ld:=0,ban:=0,pan:=0,cl:=0,ca:=.nil,pi:=.nil,wo:=.nil,gv:=.nil,aa:=.nil,fv:=.nil,lr:=.nil,lp:=.nil,ba:=.nil,pa:=.nil}
def xpR(s rest:ByteArray)(k:Int):Bool×Nat×Pa:=CY (lpl.stop (oZ s rest k)) (lpl.nx (oZ s rest k)) (lpl.len (oZ s rest k)) 0 (lpl.ini (oZ s rest k))
def G9(p:Px):Dc:=⟨p.k,Ad p.ca,Ad p.pi,p.pc,Ad p.wo,Ad p.gv,Ad p.aa,Ad p.fv,p.rr,Ad p.lr,w_ p.lp p.lpo p.lpn,p.ld,Ad p.ba,Ad p.pa,p.cl⟩
def zR:List D:=[dZ.D,.v (i64 12)]
def xpT(tc:Dc->Bool)(tS:Dc->ByteArray)(tE:Dc->Int)(s:ByteArray)(X:Bool×Nat×Pa)(c:Bool):OD:=br (decide ((s.size:Int)>60000)) (some zR) (br (decide (s.size<4294967281)&&({data:={toList:=[10]:Array UInt8}:ByteArray}).toList==sNl.toList) (br c (br X.1 (some zR) (br (tc (G9 X.2.2.p)) (br (tE (G9 X.2.2.p) !=0) (some zR) (br (!(tS (G9 X.2.2.p)).toList==s.toList) (some zR) (some [(G9 X.2.2.p).D,.v (i64 0)]))) none)) none) none)
theorem uPa(oB rB:ByteArray->ByteArray)(rc:ByteArray->Px->Bool)(rx:ByteArray->Px->Bool×Px)(tc:Dc->Bool)(tS:Dc->ByteArray)(tE:Dc->Int)(s:ByteArray):BZ (Cpa [lpk.C,lpl.C] oB rB rc rx tc tS tE) 6 8 [.v (.string s)]=xpT tc tS tE s (xpR s (rB s) (LY (oB s))) (Xa (oZ s (rB s) (LY (oB s)))):=by kernel_rfl
def Dh(x:Dc):Dc:=⟨x.k,Ip 5 [.int .i64,.slice [.int .i64],.slice [.int .i64]] x.ca,Ip 5 [.slice [.int .i64,.int .i64,.int .i64,.int .i64]] x.pi,x.pc,Ip 5 [.slice [.int .i64,.int .i64]] x.wo,Ip 5 [.slice [.int .i64]] x.gv,Ip 5 [.int .i64] x.aa,Ip 5 [.slice [.int .i64]] x.fv,x.rr,Ip 5 [.int .i64] x.lr,Ip 5 [.int .i64] x.lp,x.ld,Ip 5 [.int .i64] x.ba,Ip 5 [.int .i64,.int .i64,.int .i64] x.pa,x.cl⟩
def Yz(x:Dc):Bool:=tcG (Dh x)
def Kz(x:Dc):ByteArray:=vX (Dh x)
def FQ(x:Dc):Int:=qN (Dh x)
theorem Xk:DenW Tryz.prog Wd 6 (V4 Yz Kz FQ):=den_teV.canon.less fun ds rs h=>by
 unfold V4 at h;split at h
 ·rename_i d;split at h
  ·rename_i x hx;have e:=EX hx;subst e;exact h
  ·cases h
 ·cases h
theorem dF:DenW Tryz.prog Wd 27 (Ah7 Ln.oneB Ln.restB):=den_cut.less fun ds rs h=>by
 unfold Ah7 at h;split at h
 ·rename_i s p;simp only[A5,A6,A2,A3]at h;obtain⟨⟨h1,h2⟩,rfl⟩:=h;have e2:p=sNl:=Ci _ _|>.1 h2;subst e2;show some (decide (s.size<4294967281),[D.v (str (Lib.cut (Ae s) (Ae sNl)).1),D.v (str (Lib.cut (Ae s) (Ae sNl)).2.1),D.v (.bool (Lib.cut (Ae s) (Ae sNl)).2.2)])=_;have hc:Lib.cut (Ae s) (Ae sNl)=((Ln.sp 10 (Ae s)).1,(Ln.sp 10 (Ae s)).2.getD [],(Ln.sp 10 (Ae s)).2.isSome):=Ln.cutN s;rw[A4 h1,hc];rfl
 ·cases h
noncomputable def CpX:Cx:=Cpa [lpk.C,lpl.C] Ln.oneB Ln.restB Rh CJ Yz Kz FQ
theorem Aei:P8 CpX Wd:=UT enter mixed (fun p h=>by
 simp only[A8,A7,or_false]at h;rcases h with rfl|rfl
 ·exact dF
 ·exact Xk) (fun l h=>by
 simp only[A8,A7,or_false]at h;rcases h with rfl|rfl
 ·exact Agp ..
 ·exact Afb ..) (fun p h=>by cases h) (fun p h=>by
 simp only[A8,A7,or_false]at h;rcases h with rfl;exact Aev)
def JM(s:ByteArray):Px:=(xpR s (Ln.restB s) (LY (Ln.oneB s))).2.2.p
def Yb(s:ByteArray):Bool:=(xpR s (Ln.restB s) (LY (Ln.oneB s))).1
def pJ(s:ByteArray):Bool:= !decide (60000<s.size)&&(!Yb s&&(FQ (G9 (JM s))==0&&(Kz (G9 (JM s))).toList==s.toList))
def xpC(s:ByteArray):Bool:=decide (60000<s.size)||(Yb s||Yz (G9 (JM s)))
def NF(s:ByteArray):Dc:=bif pJ s then G9 (JM s)else dZ
def Zm(s:ByteArray):Int:=bif pJ s then 0 else 12
def Abg(pc:ByteArray->Bool)(pd:ByteArray->Dc)(pe:ByteArray->Int):FD
 |[.v (.string s)]=>some (pc s,[(pd s).D,.v (i64 (pe s))])
 |_=>none
theorem pR:DenW Tryz.prog Wd 8 (Abg xpC NF Zm):=DR Aei fun ds rs h=>by
 unfold Abg at h;split at h
 ·rename_i s;simp only[A5,A6]at h;obtain⟨h0,rfl⟩:=h;refine(uPa Ln.oneB Ln.restB Rh CJ Yz Kz FQ s).trans ?_;unfold xpT;unfold xpC at h0;by_cases hs:60000<s.size
  ·rw[A4 (show(s.size:Int)>60000 by omega),Aa];unfold NF Zm pJ;rw[A4 hs];rfl
  ·rw[AB (show¬(s.size:Int)>60000 by omega),Ac];rw[AB hs,Bool.false_or]at h0;have c2:(decide (s.size<4294967281)&&({data:={toList:=[10]:Array UInt8}:ByteArray}).toList==sNl.toList)=true:=Bool.and_eq_true_iff.2 ⟨A4 (by omega),(beq_self_eq_true sNl.toList:(sNl.toList==sNl.toList)=true)⟩;have hr:=Ln.rest_le s;have c3:Xa (oZ s (Ln.restB s) (LY (Ln.oneB s)))=true:=c_lpl_iff.2 ⟨rfl,rfl,rfl,rfl,rfl,rfl,rfl,rfl,rfl,by show(Ln.restB s).size<=100000;omega,AC _,AC _,AC _,AC _,AC _,AC _⟩;rw[c2,Aa,c3,Aa];unfold NF Zm pJ;rw[AB hs];change (Yb s||Yz (G9 (JM s)))=true at h0;show br (Yb s) _ (br (Yz (G9 (JM s))) (br (FQ (G9 (JM s)) !=0) _ (br (!(Kz (G9 (JM s))).toList==s.toList) _ (some [(G9 (JM s)).D,.v (i64 0)]))) none)=_;cases h1:Yb s
   ·rw[h1,Bool.false_or]at h0;rw[Ac,h0,Aa];by_cases he:FQ (G9 (JM s))=0
    ·rw[show(FQ (G9 (JM s)) !=0)=false by rw[he];rfl,show(FQ (G9 (JM s))==0)=true by rw[he];rfl,Ac];cases(Kz (G9 (JM s))).toList==s.toList<;>rfl
    ·rw[show(FQ (G9 (JM s)) !=0)=true by simpa using he,show(FQ (G9 (JM s))==0)=false by simpa using he,Aa];rfl
   ·rw[Aa];rfl
 ·cases h
end Go.Proofs.YtnljjjghpgdmoaaGreatDoor
namespace Go.Proofs.YtnljjjghpgdmoaaGreatDoor
open Go.Ev
set_option maxRecDepth 100000
def yQ:Ed:={τ:=[.v (.sl 0),.v (.sl 1)]++pu 3++[.v (.int .i64)]++pu 20,saved:=[[]],mem:=[.row [.int .i64,.int .i64,.int .i64,.int .i64] false,.row [.int .i64,.int .i64,.int .i64,.int .i64] false]}
structure A_lg3 where
 n:Nat
 n_2:Nat
 j:Int
 r:Row
 s:Row
def fK(its:List It):Option A_lg3:=match its with|[.n n,.n n_2,.i j,.r r,.r s]=>some ⟨n,n_2,j,r,s⟩|_=>none
def oK(x:A_lg3):Bool:=x.j=0∧x.n_2=x.n∧x.n<=1000000
def c_lg3_iff{x:A_lg3}:=@BC _ oK _ _ rfl x
def lg3:ScanL A_lg3:=⟨101,4,[0,1,5],[4],yQ,fK,fun x j=>[.n x.n,.n x.n,.i (j:Int),.r x.r,.r x.s],fun x=>x.n,oK,fun x j=> !(x.r.I j 0==x.s.I j 0&&(x.r.I j 1==x.s.I j 1&&true)&&(x.r.I j 2==x.s.I j 2&&(x.r.I j 3==x.s.I j 3&&true)&&true)),fun x j K=>K .ret ⟨us 4++[.bool false]++us 21,[[]],[]⟩,fun x K=>K (.exit 0) ⟨us 26,[[]],[]⟩⟩
noncomputable def Cg3:Cx:=AU Tryz.prog fns [] [lg3.C]
def zH:Ed:={τ:=[.v (.sl 0),.v (.sl 1)]++pu 3++[.v (.int .i64)]++pu 20,saved:=[[]],mem:=[.row [.int .i64,.int .i64,.int .i64] false,.row [.int .i64,.int .i64,.int .i64] false]}
structure A_lgp where
 n:Nat
 n_2:Nat
 j:Int
 r:Row
 s:Row
def ZY(its:List It):Option A_lgp:=match its with|[.n n,.n n_2,.i j,.r r,.r s]=>some ⟨n,n_2,j,r,s⟩|_=>none
def lM(x:A_lgp):Bool:=x.j=0∧x.n_2=x.n∧x.n<=1000000
def c_lgp_iff{x:A_lgp}:=@BC _ lM _ _ rfl x
def lgp:ScanL A_lgp:=⟨57,4,[0,1,5],[4],zH,ZY,fun x j=>[.n x.n,.n x.n,.i (j:Int),.r x.r,.r x.s],fun x=>x.n,lM,fun x j=> !(x.r.I j 0==x.s.I j 0&&(x.r.I j 1==x.s.I j 1&&(x.r.I j 2==x.s.I j 2&&true))),fun x j K=>K .ret ⟨us 4++[.bool false]++us 21,[[]],[]⟩,fun x K=>K (.exit 0) ⟨us 26,[[]],[]⟩⟩
noncomputable def Cgp:Cx:=AU Tryz.prog fns [] [lgp.C]
def Aa5:Ed:={τ:=[.v (.sl 0),.v (.sl 1)]++pu 3++[.v (.int .i64)]++pu 20,saved:=[[]],mem:=[.row [.int .i64] false,.row [.int .i64] false]}
structure A_lgs where
 n:Nat
 n_2:Nat
 j:Int
 r:Row
 s:Row
def nP(its:List It):Option A_lgs:=match its with|[.n n,.n n_2,.i j,.r r,.r s]=>some ⟨n,n_2,j,r,s⟩|_=>none
def ZQ(x:A_lgs):Bool:=x.j=0∧x.n_2=x.n∧x.n<=1000000
def c_lgs_iff{x:A_lgs}:=@BC _ ZQ _ _ rfl x
def lgs:ScanL A_lgs:=⟨56,4,[0,1,5],[4],Aa5,nP,fun x j=>[.n x.n,.n x.n,.i (j:Int),.r x.r,.r x.s],fun x=>x.n,ZQ,fun x j=>x.r.I j 0 !=x.s.I j 0,fun x j K=>K .ret ⟨us 4++[.bool false]++us 21,[[]],[]⟩,fun x K=>K (.exit 0) ⟨us 26,[[]],[]⟩⟩
noncomputable def Cgs:Cx:=AU Tryz.prog fns [] [lgs.C]
def xQ:Ed:={τ:=pu 2++[.v (.c (.pointer (some ⟨0,0,some 0⟩))),.v (.c (.pointer (some ⟨1,0,some 0⟩)))]++pu 1++[.v (.int .i64)]++pu 60,saved:=[[]],mem:=[.box [.v (.int .i64),.v (.sl 2),.v (.sl 3)],.box [.v (.int .i64),.v (.sl 4),.v (.sl 5)],.row [.int .i64] false,.row [.int .i64] false,.row [.int .i64] false,.row [.int .i64] false]}
structure A_lc4 where
 j:Int
 l:Int
 pn:Nat
 qn:Nat
 l2:Int
 pn_2:Nat
 qn_2:Nat
 p:Row
 qq:Row
 r:Row
 s:Row
def ZK(its:List It):Option A_lc4:=match its with|[.i j,.i l,.n pn,.n qn,.i l2,.n pn_2,.n qn_2,.r p,.r qq,.r r,.r s]=>some ⟨j,l,pn,qn,l2,pn_2,qn_2,p,qq,r,s⟩|_=>none
def fB(x:A_lc4):Bool:=x.j=0∧x.pn_2=x.pn∧x.qn_2=x.qn∧x.pn<=1000000
def c_lc4_iff{x:A_lc4}:=@BC _ fB _ _ rfl x
def lc4:ScanL A_lc4:=⟨52,4,[2,3,5],[2,3,4],xQ,ZK,fun x j=>[.i (j:Int),.i x.l,.n x.pn,.n x.qn,.i x.l2,.n x.pn,.n x.qn,.r x.p,.r x.qq,.r x.r,.r x.s],fun x=>x.pn,fB,fun x j=>x.p.I j 0 !=x.r.I j 0,fun x j K=>K .ret ⟨us 2++[.pointer (some ⟨0,0,some 0⟩),.pointer (some ⟨1,0,some 0⟩),.bool false]++us 61,[[]],[some (.box [i64 x.l,S_ 2 0 x.pn,S_ 3 0 x.qn]),some (.box [i64 x.l2,S_ 4 0 x.pn,S_ 5 0 x.qn]),some (.row [.int .i64] false x.p),some (.row [.int .i64] false x.qq),some (.row [.int .i64] false x.r),some (.row [.int .i64] false x.s)]⟩,fun x K=>K (.exit 0) ⟨us 2++[.pointer (some ⟨0,0,some 0⟩),.pointer (some ⟨1,0,some 0⟩)]++us 62,[[]],[some (.box [i64 x.l,S_ 2 0 x.pn,S_ 3 0 x.qn]),some (.box [i64 x.l2,S_ 4 0 x.pn,S_ 5 0 x.qn]),some (.row [.int .i64] false x.p),some (.row [.int .i64] false x.qq),some (.row [.int .i64] false x.r),some (.row [.int .i64] false x.s)]⟩⟩
def zF:Ed:={τ:=pu 2++[.v (.c (.pointer (some ⟨0,0,some 0⟩))),.v (.c (.pointer (some ⟨1,0,some 0⟩)))]++pu 2++[.v (.int .i64)]++pu 59,saved:=[[]],mem:=[.box [.v (.int .i64),.v (.sl 2),.v (.sl 3)],.box [.v (.int .i64),.v (.sl 4),.v (.sl 5)],.row [.int .i64] false,.row [.int .i64] false,.row [.int .i64] false,.row [.int .i64] false]}
structure A_lc9 where
 j:Int
 l:Int
 pn:Nat
 qn:Nat
 l2:Int
 pn_2:Nat
 qn_2:Nat
 p:Row
 qq:Row
 r:Row
 s:Row
def iC(its:List It):Option A_lc9:=match its with|[.i j,.i l,.n pn,.n qn,.i l2,.n pn_2,.n qn_2,.r p,.r qq,.r r,.r s]=>some ⟨j,l,pn,qn,l2,pn_2,qn_2,p,qq,r,s⟩|_=>none
def aZ(x:A_lc9):Bool:=x.j=0∧x.pn_2=x.pn∧x.qn_2=x.qn∧x.qn<=1000000
def c_lc9_iff{x:A_lc9}:=@BC _ aZ _ _ rfl x
def lc9:ScanL A_lc9:=⟨52,9,[2,3,6],[4],zF,iC,fun x j=>[.i (j:Int),.i x.l,.n x.pn,.n x.qn,.i x.l2,.n x.pn,.n x.qn,.r x.p,.r x.qq,.r x.r,.r x.s],fun x=>x.qn,aZ,fun x j=>x.qq.I j 0 !=x.s.I j 0,fun x j K=>K .ret ⟨us 4++[.bool false]++us 61,[[]],[]⟩,fun x K=>K (.exit 2) ⟨us 66,[[]],[]⟩⟩
noncomputable def Cg2:Cx:=AU Tryz.prog fns [] [lc4.C,lc9.C]
theorem wW(R:St->OD)(K:X->St->OD)(q n n_2:Nat)(j:Int)(r s:Row):Ar Cg3 101 4 q (bst yQ [.n n,.n n_2,.i j,.r r,.r s]) (BI [0,1,5] (some [4]) R K)=br (j<(n:Int)) (br (0<=j&&j<(n:Int)) (br (0<=j&&j<(n_2:Int)) (br (!(r.I (0+j.toNat) 0==s.I (0+j.toNat) 0&&(r.I (0+j.toNat) 1==s.I (0+j.toNat) 1&&true)&&(r.I (0+j.toNat) 2==s.I (0+j.toNat) 2&&(r.I (0+j.toNat) 3==s.I (0+j.toNat) 3&&true)&&true))) (K .ret ⟨us 4++[.bool false]++us 21,[[]],[]⟩) (R ⟨[S_ 0 0 n,S_ 1 0 n_2]++us 3++[i64 (IntKind.i64.wrap (j+1))]++us 20,[[]],[some (.row [.int .i64,.int .i64,.int .i64,.int .i64] false r),some (.row [.int .i64,.int .i64,.int .i64,.int .i64] false s)]⟩)) none) none) (K (.exit 0) ⟨us 26,[[]],[]⟩):=by kernel_rfl
theorem yO(R:St->OD)(K:X->St->OD)(q n n_2:Nat)(j:Int)(r s:Row):Ar Cgp 57 4 q (bst zH [.n n,.n n_2,.i j,.r r,.r s]) (BI [0,1,5] (some [4]) R K)=br (j<(n:Int)) (br (0<=j&&j<(n:Int)) (br (0<=j&&j<(n_2:Int)) (br (!(r.I (0+j.toNat) 0==s.I (0+j.toNat) 0&&(r.I (0+j.toNat) 1==s.I (0+j.toNat) 1&&(r.I (0+j.toNat) 2==s.I (0+j.toNat) 2&&true)))) (K .ret ⟨us 4++[.bool false]++us 21,[[]],[]⟩) (R ⟨[S_ 0 0 n,S_ 1 0 n_2]++us 3++[i64 (IntKind.i64.wrap (j+1))]++us 20,[[]],[some (.row [.int .i64,.int .i64,.int .i64] false r),some (.row [.int .i64,.int .i64,.int .i64] false s)]⟩)) none) none) (K (.exit 0) ⟨us 26,[[]],[]⟩):=by kernel_rfl
theorem Aay(R:St->OD)(K:X->St->OD)(q n n_2:Nat)(j:Int)(r s:Row):Ar Cgs 56 4 q (bst Aa5 [.n n,.n n_2,.i j,.r r,.r s]) (BI [0,1,5] (some [4]) R K)=br (j<(n:Int)) (br (0<=j&&j<(n:Int)) (br (0<=j&&j<(n_2:Int)) (br (r.I (0+j.toNat) 0 !=s.I (0+j.toNat) 0) (K .ret ⟨us 4++[.bool false]++us 21,[[]],[]⟩) (R ⟨[S_ 0 0 n,S_ 1 0 n_2]++us 3++[i64 (IntKind.i64.wrap (j+1))]++us 20,[[]],[some (.row [.int .i64] false r),some (.row [.int .i64] false s)]⟩)) none) none) (K (.exit 0) ⟨us 26,[[]],[]⟩):=by kernel_rfl
theorem yM(R:St->OD)(K:X->St->OD)(q:Nat)(j l:Int)(pn qn:Nat)(l2:Int)(pn_2 qn_2:Nat)(p qq r s:Row):Ar Cg2 52 4 q (bst xQ [.i j,.i l,.n pn,.n qn,.i l2,.n pn_2,.n qn_2,.r p,.r qq,.r r,.r s]) (BI [2,3,5] (some [2,3,4]) R K)=br (j<(pn:Int)) (br (0<=j&&j<(pn:Int)) (br (0<=j&&j<(pn_2:Int)) (br (p.I (0+j.toNat) 0 !=r.I (0+j.toNat) 0) (K .ret ⟨us 2++[.pointer (some ⟨0,0,some 0⟩),.pointer (some ⟨1,0,some 0⟩),.bool false]++us 61,[[]],[some (.box [i64 l,S_ 2 0 pn,S_ 3 0 qn]),some (.box [i64 l2,S_ 4 0 pn_2,S_ 5 0 qn_2]),some (.row [.int .i64] false p),some (.row [.int .i64] false qq),some (.row [.int .i64] false r),some (.row [.int .i64] false s)]⟩) (R ⟨us 2++[.pointer (some ⟨0,0,some 0⟩),.pointer (some ⟨1,0,some 0⟩)]++us 1++[i64 (IntKind.i64.wrap (j+1))]++us 60,[[]],[some (.box [i64 l,S_ 2 0 pn,S_ 3 0 qn]),some (.box [i64 l2,S_ 4 0 pn_2,S_ 5 0 qn_2]),some (.row [.int .i64] false p),some (.row [.int .i64] false qq),some (.row [.int .i64] false r),some (.row [.int .i64] false s)]⟩)) none) none) (K (.exit 0) ⟨us 2++[.pointer (some ⟨0,0,some 0⟩),.pointer (some ⟨1,0,some 0⟩)]++us 62,[[]],[some (.box [i64 l,S_ 2 0 pn,S_ 3 0 qn]),some (.box [i64 l2,S_ 4 0 pn_2,S_ 5 0 qn_2]),some (.row [.int .i64] false p),some (.row [.int .i64] false qq),some (.row [.int .i64] false r),some (.row [.int .i64] false s)]⟩):=by kernel_rfl
theorem Aai(R:St->OD)(K:X->St->OD)(q:Nat)(j l:Int)(pn qn:Nat)(l2:Int)(pn_2 qn_2:Nat)(p qq r s:Row):Ar Cg2 52 9 q (bst zF [.i j,.i l,.n pn,.n qn,.i l2,.n pn_2,.n qn_2,.r p,.r qq,.r r,.r s]) (BI [2,3,6] (some [4]) R K)=br (j<(qn:Int)) (br (0<=j&&j<(qn:Int)) (br (0<=j&&j<(qn_2:Int)) (br (qq.I (0+j.toNat) 0 !=s.I (0+j.toNat) 0) (K .ret ⟨us 4++[.bool false]++us 61,[[]],[]⟩) (R ⟨us 2++[.pointer (some ⟨0,0,some 0⟩),.pointer (some ⟨1,0,some 0⟩)]++us 2++[i64 (IntKind.i64.wrap (j+1))]++us 59,[[]],[some (.box [i64 l,S_ 2 0 pn,S_ 3 0 qn]),some (.box [i64 l2,S_ 4 0 pn_2,S_ 5 0 qn_2]),some (.row [.int .i64] false p),some (.row [.int .i64] false qq),some (.row [.int .i64] false r),some (.row [.int .i64] false s)]⟩)) none) none) (K (.exit 2) ⟨us 66,[[]],[]⟩):=by kernel_rfl
theorem ug3(r s:Row):BZ Cg3 6 101 [.slice [.int .i64,.int .i64,.int .i64,.int .i64] r,.slice [.int .i64,.int .i64,.int .i64,.int .i64] s]=br ((r.n:Int) !=(s.n:Int)) (some [.v (.bool false)]) (br (oK (⟨r.n,s.n,0,r,s⟩:A_lg3)) (br (Ap (fun j=> !(r.I j 0==s.I j 0&&(r.I j 1==s.I j 1&&true)&&(r.I j 2==s.I j 2&&(r.I j 3==s.I j 3&&true)&&true))) r.n 0) (some [.v (.bool false)]) (some [.v (.bool true)])) none):=by kernel_rfl
theorem ugp(r s:Row):BZ Cgp 6 57 [.slice [.int .i64,.int .i64,.int .i64] r,.slice [.int .i64,.int .i64,.int .i64] s]=br ((r.n:Int) !=(s.n:Int)) (some [.v (.bool false)]) (br (lM (⟨r.n,s.n,0,r,s⟩:A_lgp)) (br (Ap (fun j=> !(r.I j 0==s.I j 0&&(r.I j 1==s.I j 1&&(r.I j 2==s.I j 2&&true)))) r.n 0) (some [.v (.bool false)]) (some [.v (.bool true)])) none):=by kernel_rfl
theorem ugs(r s:Row):BZ Cgs 6 56 [.slice [.int .i64] r,.slice [.int .i64] s]=br ((r.n:Int) !=(s.n:Int)) (some [.v (.bool false)]) (br (ZQ (⟨r.n,s.n,0,r,s⟩:A_lgs)) (br (Ap (fun j=>r.I j 0 !=s.I j 0) r.n 0) (some [.v (.bool false)]) (some [.v (.bool true)])) none):=by kernel_rfl
theorem ug2(l l2:Int)(p q r s:Row):BZ Cg2 6 52 [.agg [.v (i64 l),.slice [.int .i64] p,.slice [.int .i64] q],.agg [.v (i64 l2),.slice [.int .i64] r,.slice [.int .i64] s]]=br (l !=l2) (some [.v (.bool false)]) (br ((p.n:Int) !=(r.n:Int)) (some [.v (.bool false)]) (br ((q.n:Int) !=(s.n:Int)) (some [.v (.bool false)]) (br (fB (⟨0,l,p.n,q.n,l2,r.n,s.n,p,q,r,s⟩:A_lc4)) (br (Ap (fun j=>p.I j 0 !=r.I j 0) p.n 0) (some [.v (.bool false)]) (br (aZ (⟨0,l,p.n,q.n,l2,p.n,q.n,p,q,r,s⟩:A_lc9)) (br (Ap (fun j=>q.I j 0 !=s.I j 0) q.n 0) (some [.v (.bool false)]) (some [.v (.bool true)])) none)) none))):=by kernel_rfl
theorem Aey:Ai Cg3 lg3.C:=lg3.ok (by kernel_rfl)
 (fun its x h hc=>by
  replace h:fK its=some x:=h;unfold fK at h;split at h
  ·cases h;obtain⟨h1,h2,h3⟩:=c_lg3_iff.1 hc;dsimp only at h1 h2;subst h1 h2;rfl
  ·cases h)
 (fun x hc=>by have:=c_lg3_iff.1 hc;show x.n<18446744073709551616;omega)
 (fun q ⟨n,n_2,j0,r,s⟩ j hc hi R K=>by
  obtain⟨h1,h2,h3⟩:=c_lg3_iff.1 hc;dsimp only at*
  replace hi:j<n:=hi;refine(wW R K q n n ((j:Int)) r s).trans ?_;rw[A9 j,AE j,gd j n hi,Fe j n hi,FH (by omega)];rfl)
 (fun q ⟨n,n_2,j0,r,s⟩ hc R K=>by
  obtain⟨h1,h2,h3⟩:=c_lg3_iff.1 hc;dsimp only at*
  refine(wW R K q n n ((n:Int)) r s).trans ?_;rw[F8 n];rfl)
theorem Ag8:Ai Cgp lgp.C:=lgp.ok (by kernel_rfl)
 (fun its x h hc=>by
  replace h:ZY its=some x:=h;unfold ZY at h;split at h
  ·cases h;obtain⟨h1,h2,h3⟩:=c_lgp_iff.1 hc;dsimp only at h1 h2;subst h1 h2;rfl
  ·cases h)
 (fun x hc=>by have:=c_lgp_iff.1 hc;show x.n<18446744073709551616;omega)
 (fun q ⟨n,n_2,j0,r,s⟩ j hc hi R K=>by
  obtain⟨h1,h2,h3⟩:=c_lgp_iff.1 hc;dsimp only at*
  replace hi:j<n:=hi;refine(yO R K q n n ((j:Int)) r s).trans ?_;rw[A9 j,AE j,gd j n hi,Fe j n hi,FH (by omega)];rfl)
 (fun q ⟨n,n_2,j0,r,s⟩ hc R K=>by
  obtain⟨h1,h2,h3⟩:=c_lgp_iff.1 hc;dsimp only at*
  refine(yO R K q n n ((n:Int)) r s).trans ?_;rw[F8 n];rfl)
theorem Af5:Ai Cgs lgs.C:=lgs.ok (by kernel_rfl)
 (fun its x h hc=>by
  replace h:nP its=some x:=h;unfold nP at h;split at h
  ·cases h;obtain⟨h1,h2,h3⟩:=c_lgs_iff.1 hc;dsimp only at h1 h2;subst h1 h2;rfl
  ·cases h)
 (fun x hc=>by have:=c_lgs_iff.1 hc;show x.n<18446744073709551616;omega)
 (fun q ⟨n,n_2,j0,r,s⟩ j hc hi R K=>by
  obtain⟨h1,h2,h3⟩:=c_lgs_iff.1 hc;dsimp only at*
  replace hi:j<n:=hi;refine(Aay R K q n n ((j:Int)) r s).trans ?_;rw[A9 j,AE j,gd j n hi,Fe j n hi,FH (by omega)];rfl)
 (fun q ⟨n,n_2,j0,r,s⟩ hc R K=>by
  obtain⟨h1,h2,h3⟩:=c_lgs_iff.1 hc;dsimp only at*
  refine(Aay R K q n n ((n:Int)) r s).trans ?_;rw[F8 n];rfl)
theorem Agt:Ai Cg2 lc4.C:=lc4.ok (by kernel_rfl)
 (fun its x h hc=>by
  replace h:ZK its=some x:=h;unfold ZK at h;split at h
  ·cases h;obtain⟨h1,h2,h3,h4⟩:=c_lc4_iff.1 hc;dsimp only at h1 h2 h3;subst h1 h2 h3;rfl
  ·cases h)
 (fun x hc=>by have:=c_lc4_iff.1 hc;show x.pn<18446744073709551616;omega)
 (fun q ⟨j0,l,pn,qn,l2,pn_2,qn_2,p,qq,r,s⟩ j hc hi R K=>by
  obtain⟨h1,h2,h3,h4⟩:=c_lc4_iff.1 hc;dsimp only at*
  replace hi:j<pn:=hi;refine(yM R K q ((j:Int)) l pn qn l2 pn qn p qq r s).trans ?_;rw[A9 j,AE j,gd j pn hi,Fe j pn hi,FH (by omega)];rfl)
 (fun q ⟨j0,l,pn,qn,l2,pn_2,qn_2,p,qq,r,s⟩ hc R K=>by
  obtain⟨h1,h2,h3,h4⟩:=c_lc4_iff.1 hc;dsimp only at*
  refine(yM R K q ((pn:Int)) l pn qn l2 pn qn p qq r s).trans ?_;rw[F8 pn];rfl)
theorem Ago:Ai Cg2 lc9.C:=lc9.ok (by kernel_rfl)
 (fun its x h hc=>by
  replace h:iC its=some x:=h;unfold iC at h;split at h
  ·cases h;obtain⟨h1,h2,h3,h4⟩:=c_lc9_iff.1 hc;dsimp only at h1 h2 h3;subst h1 h2 h3;rfl
  ·cases h)
 (fun x hc=>by have:=c_lc9_iff.1 hc;show x.qn<18446744073709551616;omega)
 (fun q ⟨j0,l,pn,qn,l2,pn_2,qn_2,p,qq,r,s⟩ j hc hi R K=>by
  obtain⟨h1,h2,h3,h4⟩:=c_lc9_iff.1 hc;dsimp only at*
  replace hi:j<qn:=hi;refine(Aai R K q ((j:Int)) l pn qn l2 pn qn p qq r s).trans ?_;rw[A9 j,AE j,gd j qn hi,Fe j qn hi,FH (by omega)];rfl)
 (fun q ⟨j0,l,pn,qn,l2,pn_2,qn_2,p,qq,r,s⟩ hc R K=>by
  obtain⟨h1,h2,h3,h4⟩:=c_lc9_iff.1 hc;dsimp only at*
  refine(Aai R K q ((qn:Int)) l pn qn l2 pn qn p qq r s).trans ?_;rw[F8 qn];rfl)
def Hm(m:Nat)(r s:Row):Prop:=r.n=s.n∧∀j,j<r.n->∀c,c<m->r.I j c=s.I j c
instance(m:Nat)(r s:Row):Decidable (Hm m r s):=by unfold Hm;infer_instance
theorem uU{a b:Nat}(h:a=b):((a:Int) !=(b:Int))=false:=by rw[h];simp
theorem ET{a b:Int}(h:a=b):(a !=b)=false:=by rw[h];simp
def nT:FD
 |[.slice [.int .i64,.int .i64,.int .i64,.int .i64] r,.slice [.int .i64,.int .i64,.int .i64,.int .i64] s]=>some (r.n<=1000000∧Hm 4 r s,[.v (.bool true)])
 |_=>none
theorem Aec:Bi Cg3:=Aq enter mixed (fun p h=>by cases h) (fun l h=>by
 simp only[A8,A7,or_false]at h;rcases h with rfl;exact Aey)
theorem Afu:Den Tryz.prog 101 nT:=Ag Aec fun ds rs h=>by
 unfold nT at h;split at h
 ·rename_i r s;simp only[A5,A6]at h;obtain⟨h0,rfl⟩:=h;obtain⟨h1,h2,h3⟩:=AD h0;refine(ug3 r s).trans ?_;rw[uU h2,Ac,c_lg3_iff.2 ⟨rfl,h2.symm,h1⟩,Aa,anyF_false.2 fun j _ hj=>?_]
  ·rfl
  ·have hj':j<r.n:=by omega
   show(!(r.I j 0==s.I j 0&&(r.I j 1==s.I j 1&&true)&&(r.I j 2==s.I j 2&&(r.I j 3==s.I j 3&&true)&&true)))=false;rw[h3 j hj' 0 (by decide),h3 j hj' 1 (by decide),h3 j hj' 2 (by decide),h3 j hj' 3 (by decide)];simp
 ·cases h
def kZ:FD
 |[.slice [.int .i64,.int .i64,.int .i64] r,.slice [.int .i64,.int .i64,.int .i64] s]=>some (r.n<=1000000∧Hm 3 r s,[.v (.bool true)])
 |_=>none
theorem Ag2:Bi Cgp:=Aq enter mixed (fun p h=>by cases h) (fun l h=>by
 simp only[A8,A7,or_false]at h;rcases h with rfl;exact Ag8)
theorem Afi:Den Tryz.prog 57 kZ:=Ag Ag2 fun ds rs h=>by
 unfold kZ at h;split at h
 ·rename_i r s;simp only[A5,A6]at h;obtain⟨h0,rfl⟩:=h;obtain⟨h1,h2,h3⟩:=AD h0;refine(ugp r s).trans ?_;rw[uU h2,Ac,c_lgp_iff.2 ⟨rfl,h2.symm,h1⟩,Aa,anyF_false.2 fun j _ hj=>?_]
  ·rfl
  ·have hj':j<r.n:=by omega
   show(!(r.I j 0==s.I j 0&&(r.I j 1==s.I j 1&&(r.I j 2==s.I j 2&&true))))=false;rw[h3 j hj' 0 (by decide),h3 j hj' 1 (by decide),h3 j hj' 2 (by decide)];simp
 ·cases h
def Zv:FD
 |[.slice [.int .i64] r,.slice [.int .i64] s]=>some (r.n<=1000000∧Hm 1 r s,[.v (.bool true)])
 |_=>none
theorem Ae6:Bi Cgs:=Aq enter mixed (fun p h=>by cases h) (fun l h=>by
 simp only[A8,A7,or_false]at h;rcases h with rfl;exact Af5)
theorem Acd:Den Tryz.prog 56 Zv:=Ag Ae6 fun ds rs h=>by
 unfold Zv at h;split at h
 ·rename_i r s;simp only[A5,A6]at h;obtain⟨h0,rfl⟩:=h;obtain⟨h1,h2,h3⟩:=AD h0;refine(ugs r s).trans ?_;rw[uU h2,Ac,c_lgs_iff.2 ⟨rfl,h2.symm,h1⟩,Aa,anyF_false.2 fun j _ hj=>?_]
  ·rfl
  ·have hj':j<r.n:=by omega
   show(r.I j 0 !=s.I j 0)=false;rw[h3 j hj' 0 (by decide)];simp
 ·cases h
def aV:FD
 |[.agg [.v (.int .i64 l),.slice [.int .i64] p,.slice [.int .i64] q],.agg [.v (.int .i64 l2),.slice [.int .i64] r,.slice [.int .i64] s]]=>some (l=l2∧p.n<=1000000∧q.n<=1000000∧Hm 1 p r∧Hm 1 q s,[.v (.bool true)])
 |_=>none
theorem Afp:Bi Cg2:=Aq enter mixed (fun p h=>by cases h) (fun l h=>by
 simp only[A8,A7,or_false]at h;rcases h with rfl|rfl
 ·exact Agt
 ·exact Ago)
theorem Abr:Den Tryz.prog 52 aV:=Ag Afp fun ds rs h=>by
 unfold aV at h;split at h
 ·rename_i l p q l2 r s;simp only[A5,A6]at h;obtain⟨h0,rfl⟩:=h;obtain⟨h1,h2,h3,⟨h4,h5⟩,h6,h7⟩:=AD h0;refine(ug2 l l2 p q r s).trans ?_;rw[ET h1,Ac,uU h4,Ac,uU h6,Ac,c_lc4_iff.2 ⟨rfl,h4.symm,h6.symm,h2⟩,Aa,anyF_false.2 fun j _ hj=>?_,Ac,c_lc9_iff.2 ⟨rfl,rfl,rfl,h3⟩,Aa,anyF_false.2 fun j _ hj=>?_]
  ·rfl
  ·have hj':j<q.n:=by omega
   exact ET (h7 j hj' 0 (by decide))
  ·have hj':j<p.n:=by omega
   exact ET (h5 j hj' 0 (by decide))
 ·cases h
theorem any0:∀n j,Ap (fun _=>false) n j=false:=fun n j=>anyF_false.2 fun _ _ _=>rfl
def Qs(m:Nat)(r s:Row)(n:Nat):Prop:=∀i,i<n->(r.R i 0).n<=1000000∧Hm m (r.R i 0) (s.R i 0)
instance(m:Nat)(r s:Row)(n:Nat):Decidable (Qs m r s n):=by unfold Qs;infer_instance
def Aaq:Ed:={τ:=pu 2++[.v (.c (.pointer (some ⟨0,0,some 0⟩))),.v (.c (.pointer (some ⟨1,0,some 0⟩)))]++pu 1++[.v (.int .i64)]++pu 26,saved:=[[]],mem:=[.box [.v (.sl 2)],.box [.v (.sl 3)],.row [.slice [.int .i64,.int .i64,.int .i64,.int .i64]] false,.row [.slice [.int .i64,.int .i64,.int .i64,.int .i64]] false]}
structure A_lg6 where
 j:Int
 n:Nat
 n_2:Nat
 r:Row
 s:Row
def iW(its:List It):Option A_lg6:=match its with|[.i j,.n n,.n n_2,.r r,.r s]=>some ⟨j,n,n_2,r,s⟩|_=>none
def dH(x:A_lg6):Bool:=x.j=0∧x.n_2=x.n∧x.n<=1000000∧Qs 4 x.r x.s x.n
def c_lg6_iff{x:A_lg6}:=@BC _ dH _ _ rfl x
def lg6:ScanL A_lg6:=⟨50,4,[2,3,5],[4],Aaq,iW,fun x j=>[.i (j:Int),.n x.n,.n x.n,.r x.r,.r x.s],fun x=>x.n,dH,fun x j=>false,fun x j K=>none,fun x K=>K (.exit 0) ⟨us 32,[[]],[]⟩⟩
noncomputable def Cg6:Cx:=AU Tryz.prog fns [(101,nT)] [lg6.C]
theorem UU{m:Nat}{r s:Row}(h:r.n<=1000000∧Hm m r s):(w_ r 0 r.n).n<=1000000∧Hm m (w_ r 0 r.n) (w_ s 0 s.n):=by
 obtain⟨h1,h2,h3⟩:=h;refine⟨by rw[wn_];exact h1,by rw[wn_,wn_];exact h2,fun j hj c hc=>?_⟩;rw[wn_]at hj;rw[Ea,Ea,AE];exact h3 j hj c hc
theorem gi{i:Int}{n:Nat}(h1:0<=i)(h2:i<(n:Int)):(decide (0<=i)&&decide (i<(n:Int)))=true:=by simp only[A2,A3];exact⟨h1,h2⟩
def zA:Ed:={τ:=[.v (.sl 0),.v (.sl 1)]++pu 3++[.v (.int .i64),.v (.int .i64)]++pu 46,saved:=[[]],mem:=[.row [.slice [.int .i64,.int .i64]] false,.row [.slice [.int .i64,.int .i64]] false]}
structure A_lw9 where
 n:Nat
 n_2:Nat
 i:Int
 j:Int
 r:Row
 s:Row
def jE(its:List It):Option A_lw9:=match its with|[.n n,.n n_2,.i i,.i j,.r r,.r s]=>some ⟨n,n_2,i,j,r,s⟩|_=>none
def oP(x:A_lw9):Bool:=x.j=0∧x.n_2=x.n∧0<=x.i∧x.i<x.n∧(x.r.R x.i.toNat 0).n<=1000000∧Hm 2 (x.r.R x.i.toNat 0) (x.s.R x.i.toNat 0)
def c_lw9_iff{x:A_lw9}:=@BC _ oP _ _ rfl x
def lw9:ScanL A_lw9:=⟨51,9,[0,1,5,6],[0,1,4,5],zA,jE,fun x j=>[.n x.n,.n x.n,.i x.i,.i (j:Int),.r x.r,.r x.s],fun x=>(x.r.R x.i.toNat 0).n,oP,fun x j=>false,fun x j K=>K .ret ⟨[S_ 0 0 x.n,S_ 1 0 x.n]++us 2++[.bool false,i64 x.i]++us 47,[[]],[some (.row [.slice [.int .i64,.int .i64]] false x.r),some (.row [.slice [.int .i64,.int .i64]] false x.s)]⟩,fun x K=>K (.exit 2) ⟨[S_ 0 0 x.n,S_ 1 0 x.n]++us 3++[i64 x.i]++us 47,[[]],[some (.row [.slice [.int .i64,.int .i64]] false x.r),some (.row [.slice [.int .i64,.int .i64]] false x.s)]⟩⟩
def zD:Ed:={τ:=[.v (.sl 0),.v (.sl 1)]++pu 3++[.v (.int .i64)]++pu 47,saved:=[[]],mem:=[.row [.slice [.int .i64,.int .i64]] false,.row [.slice [.int .i64,.int .i64]] false]}
structure A_lw4 where
 n:Nat
 n_2:Nat
 j:Int
 r:Row
 s:Row
def aW(its:List It):Option A_lw4:=match its with|[.n n,.n n_2,.i j,.r r,.r s]=>some ⟨n,n_2,j,r,s⟩|_=>none
def kY(x:A_lw4):Bool:=x.j=0∧x.n_2=x.n∧x.n<=1000000∧Qs 2 x.r x.s x.n
def c_lw4_iff{x:A_lw4}:=@BC _ kY _ _ rfl x
def lw4:ScanL A_lw4:=⟨51,4,[0,1,5],[4],zD,aW,fun x j=>[.n x.n,.n x.n,.i (j:Int),.r x.r,.r x.s],fun x=>x.n,kY,fun x j=>false,fun x j K=>K .ret ⟨us 4++[.bool false]++us 48,[[]],[]⟩,fun x K=>K (.exit 0) ⟨us 53,[[]],[]⟩⟩
noncomputable def Cgw:Cx:=AU Tryz.prog fns [] [lw9.C,lw4.C]
theorem Aad(R:St->OD)(K:X->St->OD)(q:Nat)(j:Int)(n n_2:Nat)(r s:Row):Ar Cg6 50 4 q (bst Aaq [.i j,.n n,.n n_2,.r r,.r s]) (BI [2,3,5] (some [4]) R K)=br (j<(n:Int)) (br (0<=j&&j<(n:Int)) (br (0<=j&&j<(n_2:Int)) (br (decide ((w_ (r.R (0+j.toNat) 0) 0 (r.R (0+j.toNat) 0).n).n<=1000000∧Hm 4 (w_ (r.R (0+j.toNat) 0) 0 (r.R (0+j.toNat) 0).n) (w_ (s.R (0+j.toNat) 0) 0 (s.R (0+j.toNat) 0).n))) (R ⟨us 2++[.pointer (some ⟨0,0,some 0⟩),.pointer (some ⟨1,0,some 0⟩)]++us 1++[i64 (IntKind.i64.wrap (j+1))]++us 26,[[]],[some (.box [S_ 2 0 n]),some (.box [S_ 3 0 n_2]),some (.row [.slice [.int .i64,.int .i64,.int .i64,.int .i64]] false r),some (.row [.slice [.int .i64,.int .i64,.int .i64,.int .i64]] false s)]⟩) none) none) none) (K (.exit 0) ⟨us 32,[[]],[]⟩):=by kernel_rfl
theorem Aa0(R:St->OD)(K:X->St->OD)(q n n_2:Nat)(i j:Int)(r s:Row):Ar Cgw 51 9 q (bst zA [.n n,.n n_2,.i i,.i j,.r r,.r s]) (BI [0,1,5,6] (some [0,1,4,5]) R K)=br (0<=i&&i<(n:Int)) (br (j<(↑(r.R (0+i.toNat) 0).n:Int)) (br (0<=i&&i<(n:Int)) (br (0<=j&&j<(↑(r.R (0+i.toNat) 0).n:Int)) (br (0<=i&&i<(n_2:Int)) (br (0<=j&&j<(↑(s.R (0+i.toNat) 0).n:Int)) (br (!((r.R (0+i.toNat) 0).I (0+j.toNat) 0==(s.R (0+i.toNat) 0).I (0+j.toNat) 0&&((r.R (0+i.toNat) 0).I (0+j.toNat) 1==(s.R (0+i.toNat) 0).I (0+j.toNat) 1&&true))) (K .ret ⟨[S_ 0 0 n,S_ 1 0 n_2]++us 2++[.bool false,i64 i]++us 47,[[]],[some (.row [.slice [.int .i64,.int .i64]] false r),some (.row [.slice [.int .i64,.int .i64]] false s)]⟩) (R ⟨[S_ 0 0 n,S_ 1 0 n_2]++us 3++[i64 i,i64 (IntKind.i64.wrap (j+1))]++us 46,[[]],[some (.row [.slice [.int .i64,.int .i64]] false r),some (.row [.slice [.int .i64,.int .i64]] false s)]⟩)) none) none) none) none) (K (.exit 2) ⟨[S_ 0 0 n,S_ 1 0 n_2]++us 3++[i64 i]++us 47,[[]],[some (.row [.slice [.int .i64,.int .i64]] false r),some (.row [.slice [.int .i64,.int .i64]] false s)]⟩)) (none):=by kernel_rfl
theorem Aaz(R:St->OD)(K:X->St->OD)(q n n_2:Nat)(j:Int)(r s:Row):Ar Cgw 51 4 q (bst zD [.n n,.n n_2,.i j,.r r,.r s]) (BI [0,1,5] (some [4]) R K)=br (j<(n:Int)) (br (0<=j&&j<(n:Int)) (br (0<=j&&j<(n_2:Int)) (br ((↑(r.R (0+j.toNat) 0).n:Int) !=(↑(s.R (0+j.toNat) 0).n:Int)) (K .ret ⟨us 4++[.bool false]++us 48,[[]],[]⟩) (br (oP (⟨n,n_2,j,0,r,s⟩:A_lw9)) (br (Ap (fun j=>false) (r.R j.toNat 0).n 0) (K .ret ⟨us 4++[.bool false]++us 48,[[]],[]⟩) (R ⟨[S_ 0 0 n,S_ 1 0 n]++us 3++[i64 (IntKind.i64.wrap (j+1))]++us 47,[[]],[some (.row [.slice [.int .i64,.int .i64]] false r),some (.row [.slice [.int .i64,.int .i64]] false s)]⟩)) none)) none) none) (K (.exit 0) ⟨us 53,[[]],[]⟩):=by kernel_rfl
theorem ug6(r s:Row):BZ Cg6 6 50 [.agg [.slice [.slice [.int .i64,.int .i64,.int .i64,.int .i64]] r],.agg [.slice [.slice [.int .i64,.int .i64,.int .i64,.int .i64]] s]]=br ((r.n:Int) !=(s.n:Int)) (some [.v (.bool false)]) (br (dH (⟨0,r.n,s.n,r,s⟩:A_lg6)) (br (Ap (fun j=>false) r.n 0) none (some [.v (.bool true)])) none):=by kernel_rfl
theorem ugw(r s:Row):BZ Cgw 6 51 [.slice [.slice [.int .i64,.int .i64]] r,.slice [.slice [.int .i64,.int .i64]] s]=br ((r.n:Int) !=(s.n:Int)) (some [.v (.bool false)]) (br (kY (⟨r.n,s.n,0,r,s⟩:A_lw4)) (br (Ap (fun j=>false) r.n 0) (some [.v (.bool false)]) (some [.v (.bool true)])) none):=by kernel_rfl
noncomputable def Ajl:Cx:=AU Tryz.prog fns [(54,uS)] []
theorem Ak1(p q r s:Row)(n m:Int):BZ Ajl 6 55 [.agg [.slice [.int .i64] p,.slice [.int .i64] q,.v (i64 n)],.agg [.slice [.int .i64] r,.slice [.int .i64] s,.v (i64 m)]]=br (n==m) (br ((w_ p 0 p.n).n<=1000000) (br (LP (w_ p 0 p.n) (w_ r 0 r.n)) (br ((w_ q 0 q.n).n<=1000000) (some [.v (.bool (LP (w_ q 0 q.n) (w_ s 0 s.n)))]) none) (some [.v (.bool false)])) none) (some [.v (.bool false)]):=by kernel_rfl
theorem Afe:Ai Cg6 lg6.C:=lg6.ok (by kernel_rfl)
 (fun its x h hc=>by
  replace h:iW its=some x:=h;unfold iW at h;split at h
  ·cases h;obtain⟨h1,h2,h3,h4⟩:=c_lg6_iff.1 hc;dsimp only at h1 h2;subst h1 h2;rfl
  ·cases h)
 (fun x hc=>by have:=c_lg6_iff.1 hc;show x.n<18446744073709551616;omega)
 (fun q ⟨j0,n,n_2,r,s⟩ j hc hi R K=>by
  obtain⟨h1,h2,h3,h4⟩:=c_lg6_iff.1 hc;dsimp only at*
  replace hi:j<n:=hi;refine(Aad R K q ((j:Int)) n n r s).trans ?_;have k1:=h4 j hi;rw[A9 j,AE j,gd j n hi,Fe j n hi,FH (by omega),A4 (UU k1)];rfl)
 (fun q ⟨j0,n,n_2,r,s⟩ hc R K=>by
  obtain⟨h1,h2,h3,h4⟩:=c_lg6_iff.1 hc;dsimp only at*
  refine(Aad R K q ((n:Int)) n n r s).trans ?_;rw[F8 n];rfl)
theorem Ad1:Ai Cgw lw9.C:=lw9.ok (by kernel_rfl)
 (fun its x h hc=>by
  replace h:jE its=some x:=h;unfold jE at h;split at h
  ·cases h;obtain⟨h1,h2,h3,h4,h5,h6⟩:=c_lw9_iff.1 hc;dsimp only at h1 h2;subst h1 h2;rfl
  ·cases h)
 (fun x hc=>by have:=c_lw9_iff.1 hc;show(x.r.R x.i.toNat 0).n<18446744073709551616;omega)
 (fun q ⟨n,n_2,i,j0,r,s⟩ j hc hi R K=>by
  obtain⟨h1,h2,h3,h4,h5,h6⟩:=c_lw9_iff.1 hc;dsimp only at*
  replace hi:j<(r.R i.toNat 0).n:=hi;refine(Aa0 R K q n n i ((j:Int)) r s).trans ?_;have hs:j<(s.R i.toNat 0).n:=by rw[<-h6.1];exact hi
  simp only[AE,A9];rw[gi h3 h4,gd j _ hi,gd j _ hs,Fe j _ hi,h6.2 j hi 0 (by decide),h6.2 j hi 1 (by decide),FH (by omega)];simp only[beq_self_eq_true,Bool.and_self,Bool.not_true];subst h2;rfl)
 (fun q ⟨n,n_2,i,j0,r,s⟩ hc R K=>by
  obtain⟨h1,h2,h3,h4,h5,h6⟩:=c_lw9_iff.1 hc;dsimp only at*
  refine(Aa0 R K q n n i ((((r.R i.toNat 0).n:Nat):Int)) r s).trans ?_;simp only[AE];rw[gi h3 h4,F8];subst h2;rfl)
theorem Ac0:Ai Cgw lw4.C:=lw4.ok (by kernel_rfl)
 (fun its x h hc=>by
  replace h:aW its=some x:=h;unfold aW at h;split at h
  ·cases h;obtain⟨h1,h2,h3,h4⟩:=c_lw4_iff.1 hc;dsimp only at h1 h2;subst h1 h2;rfl
  ·cases h)
 (fun x hc=>by have:=c_lw4_iff.1 hc;show x.n<18446744073709551616;omega)
 (fun q ⟨n,n_2,j0,r,s⟩ j hc hi R K=>by
  obtain⟨h1,h2,h3,h4⟩:=c_lw4_iff.1 hc;dsimp only at*
  replace hi:j<n:=hi;refine(Aaz R K q n n ((j:Int)) r s).trans ?_;have k1:=h4 j hi;simp only[AE,A9];rw[gd j n hi,Fe j n hi,FH (by omega),uU k1.2.1];rw[Aa,Aa,Aa,Ac];refine(congrArg (fun c=>br c _ _) (c_lw9_iff.2 ⟨rfl,rfl,Int.natCast_nonneg j,Int.ofNat_lt.2 hi,k1.1,k1.2⟩)).trans ?_;rw[Aa,any0];subst h2;rfl)
 (fun q ⟨n,n_2,j0,r,s⟩ hc R K=>by
  obtain⟨h1,h2,h3,h4⟩:=c_lw4_iff.1 hc;dsimp only at*
  refine(Aaz R K q n n ((n:Int)) r s).trans ?_;rw[F8 n];rfl)
def gX:FD
 |[.agg [.slice [.slice [.int .i64,.int .i64,.int .i64,.int .i64]] r],.agg [.slice [.slice [.int .i64,.int .i64,.int .i64,.int .i64]] s]]=>some (r.n=s.n∧r.n<=1000000∧Qs 4 r s r.n,[.v (.bool true)])
 |_=>none
theorem Acu:Bi Cg6:=Aq enter mixed (fun p h=>by
 simp only[A8,A7,or_false]at h;rcases h with rfl;exact Afu) (fun l h=>by
 simp only[A8,A7,or_false]at h;rcases h with rfl;exact Afe)
theorem Aca:Den Tryz.prog 50 gX:=Ag Acu fun ds rs h=>by
 unfold gX at h;split at h
 ·rename_i r s;simp only[A5,A6]at h;obtain⟨h0,rfl⟩:=h;obtain⟨h1,h2,h3⟩:=AD h0;refine(ug6 r s).trans ?_;rw[uU h1,Ac,c_lg6_iff.2 ⟨rfl,h1.symm,h2,h3⟩,Aa,any0,Ac]
 ·cases h
def bV:FD
 |[.slice [.slice [.int .i64,.int .i64]] r,.slice [.slice [.int .i64,.int .i64]] s]=>some (r.n=s.n∧r.n<=1000000∧Qs 2 r s r.n,[.v (.bool true)])
 |_=>none
theorem Af0:Bi Cgw:=Aq enter mixed (fun p h=>by cases h) (fun l h=>by
 simp only[A8,A7,or_false]at h;rcases h with rfl|rfl
 ·exact Ad1
 ·exact Ac0)
theorem Adb:Den Tryz.prog 51 bV:=Ag Af0 fun ds rs h=>by
 unfold bV at h;split at h
 ·rename_i r s;simp only[A5,A6]at h;obtain⟨h0,rfl⟩:=h;obtain⟨h1,h2,h3⟩:=AD h0;refine(ugw r s).trans ?_;rw[uU h1,Ac,c_lw4_iff.2 ⟨rfl,h1.symm,h2,h3⟩,Aa,any0,Ac]
 ·cases h
theorem NQ{r s:Row}(h:Hm 1 r s):LP r s=true:=by
 unfold LP;rw[h.1,beq_self_eq_true,Bool.true_and,Bool.not_eq_true',anyF_false];exact fun j _ hj=>ET (h.2 j (by rw[h.1];omega) 0 (by decide))
theorem qK:Bi Ajl:=Aq enter mixed (fun p h=>by
 simp only[A8,A7,or_false]at h;rcases h with rfl;exact den_sam) (fun l h=>by cases h)
def VL:FD
 |[.agg [.slice [.int .i64] p,.slice [.int .i64] q,.v (.int .i64 n)],.agg [.slice [.int .i64] r,.slice [.int .i64] s,.v (.int .i64 m)]]=>some (n=m∧p.n<=1000000∧q.n<=1000000∧Hm 1 p r∧Hm 1 q s,[.v (.bool true)])
 |_=>none
theorem pW:Den Tryz.prog 55 VL:=Ag qK fun ds rs h=>by
 unfold VL at h;split at h
 ·rename_i p q n r s m;simp only[A5,A6]at h;obtain⟨h0,rfl⟩:=h;obtain⟨h1,h2,h3,h4,h5⟩:=AD h0;refine(Ak1 p q r s n m).trans ?_;rw[h1,beq_self_eq_true,Aa,NQ (UU ⟨h2,h4⟩).2,NQ (UU ⟨h3,h5⟩).2,A4 (UU ⟨h2,h4⟩).1,A4 (UU ⟨h3,h5⟩).1];rfl
 ·cases h
def nN:FD
 |[.slice [.slice [.int .i64]] r,.slice [.slice [.int .i64]] s]=>some (r.n=s.n∧r.n<=1000000∧Qs 1 r s r.n,[.v (.bool true)])
 |_=>none
theorem Abl:Den Tryz.prog 53 nN:=den_samL.less fun ds rs h=>by
 unfold nN at h;split at h
 ·rename_i r s;simp only[A5,A6]at h;obtain⟨h0,rfl⟩:=h;obtain⟨h1,h2,h3⟩:=AD h0;have e:ZJ r s=true:=by
   unfold ZJ;rw[h1,beq_self_eq_true,Bool.true_and,Bool.not_eq_true',anyF_false];exact fun j _ hj=>by rw[NQ (h3 j (by omega)).2];rfl
  show some (decide (r.n<=1000000∧∀i,i<r.n->(r.R i 0).n<=1000000),[D.v (.bool (ZJ r s))])=_;rw[e,A4 ⟨h2,fun i hi=>(h3 i hi).1⟩]
 ·cases h
def Va:FD
 |[.slice [.int .i64] r,.slice [.int .i64] s]=>some (r.n<=1000000∧Hm 1 r s,[.v (.bool true)])
 |_=>none
theorem tY:Den Tryz.prog 54 Va:=den_sam.less fun ds rs h=>by
 unfold Va at h;split at h
 ·rename_i r s;simp only[A5,A6]at h;obtain⟨h0,rfl⟩:=h;obtain⟨h1,h2⟩:=AD h0;show some (decide (r.n<=1000000),[D.v (.bool (LP r s))])=_;rw[NQ h2,A4 h1]
 ·cases h
def CkE(r s:Row)(n:Nat):Prop:=∀i,i<n->r.I i 0=s.I i 0∧(r.R i 1).n<=1000000∧(r.R i 2).n<=1000000∧Hm 1 (r.R i 1) (s.R i 1)∧Hm 1 (r.R i 2) (s.R i 2)
instance(r s:Row)(n:Nat):Decidable (CkE r s n):=by unfold CkE;infer_instance
theorem eqc{l l2:Int}{p q r s:Row}(h:l=l2∧p.n<=1000000∧q.n<=1000000∧Hm 1 p r∧Hm 1 q s):l=l2∧(w_ p 0 p.n).n<=1000000∧(w_ q 0 q.n).n<=1000000∧Hm 1 (w_ p 0 p.n) (w_ r 0 r.n)∧Hm 1 (w_ q 0 q.n) (w_ s 0 s.n):=
 ⟨h.1,(UU ⟨h.2.1,h.2.2.2.1⟩).1,(UU ⟨h.2.2.1,h.2.2.2.2⟩).1,(UU ⟨h.2.1,h.2.2.2.1⟩).2,(UU ⟨h.2.2.1,h.2.2.2.2⟩).2⟩
def zJ:Ed:={τ:=pu 2++[.v (.c (.pointer (some ⟨0,0,some 0⟩))),.v (.c (.pointer (some ⟨1,0,some 0⟩)))]++pu 1++[.v (.int .i64)]++pu 122,saved:=[[]],mem:=[.box [.v (.int .u8),.v (.sl 2),.v (.sl 3),.v (.int .u8),.v (.sl 4),.v (.sl 5),.v (.sl 6),.v (.sl 7),.v (.int .i64),.v (.sl 8),.v (.sl 9),.v (.int .i64),.v (.sl 10),.v (.sl 11),.v (.int .u8)],.box [.v (.int .u8),.v (.sl 12),.v (.sl 13),.v (.int .u8),.v (.sl 14),.v (.sl 15),.v (.sl 16),.v (.sl 17),.v (.int .i64),.v (.sl 18),.v (.sl 19),.v (.int .i64),.v (.sl 20),.v (.sl 21),.v (.int .u8)],.row [.int .i64,.slice [.int .i64],.slice [.int .i64]] false,.row [.slice [.int .i64,.int .i64,.int .i64,.int .i64]] false,.row [.slice [.int .i64,.int .i64]] false,.row [.slice [.int .i64]] false,.row [.int .i64] false,.row [.slice [.int .i64]] false,.row [.int .i64] false,.row [.int .i64] false,.row [.int .i64] false,.row [.int .i64,.int .i64,.int .i64] false,.row [.int .i64,.slice [.int .i64],.slice [.int .i64]] false,.row [.slice [.int .i64,.int .i64,.int .i64,.int .i64]] false,.row [.slice [.int .i64,.int .i64]] false,.row [.slice [.int .i64]] false,.row [.int .i64] false,.row [.slice [.int .i64]] false,.row [.int .i64] false,.row [.int .i64] false,.row [.int .i64] false,.row [.int .i64,.int .i64,.int .i64] false]}
structure A_lrs where
 j:Int
 k:Int
 n:Nat
 pin:Nat
 pc:Int
 won:Nat
 gvn:Nat
 aan:Nat
 fvn:Nat
 rr:Int
 lrn:Nat
 lpn:Nat
 ld:Int
 ban:Nat
 pan:Nat
 cl:Int
 kz:Int
 n_2:Nat
 pinz:Nat
 pcz:Int
 wonz:Nat
 gvnz:Nat
 aanz:Nat
 fvnz:Nat
 rrz:Int
 lrnz:Nat
 lpnz:Nat
 ldz:Int
 banz:Nat
 panz:Nat
 clz:Int
 ca:Row
 pi:Row
 wo:Row
 gv:Row
 aa:Row
 fv:Row
 lr:Row
 lp:Row
 ba:Row
 pa:Row
 caz:Row
 piz:Row
 woz:Row
 gvz:Row
 aaz:Row
 fvz:Row
 lrz:Row
 lpz:Row
 baz:Row
 paz:Row
def iO(its:List It):Option A_lrs:=match its with|(.i j::.i k::.n n::.n pin::.i pc::.n won::.n gvn::.n aan::.n fvn::.i rr::.n lrn::.n lpn::.i ld::.n ban::.n pan::.i cl::.i kz::.n n_2::.n pinz::.i pcz::.n wonz::.n gvnz::.n aanz::.n fvnz::.i rrz::.n lrnz::.n lpnz::.i ldz::.n banz::.n panz::.i clz::.r ca::.r pi::.r wo::.r gv::.r aa::.r fv::.r lr::.r lp::.r ba::.r pa::.r caz::.r piz::.r woz::.r gvz::.r aaz::.r fvz::.r lrz::.r lpz::.r baz::.r paz::[])=>some ⟨j,k,n,pin,pc,won,gvn,aan,fvn,rr,lrn,lpn,ld,ban,pan,cl,kz,n_2,pinz,pcz,wonz,gvnz,aanz,fvnz,rrz,lrnz,lpnz,ldz,banz,panz,clz,ca,pi,wo,gv,aa,fv,lr,lp,ba,pa,caz,piz,woz,gvz,aaz,fvz,lrz,lpz,baz,paz⟩|_=>none
def iV(x:A_lrs):Bool:=x.j=0∧x.n_2=x.n∧x.n<=1000000∧CkE x.ca x.caz x.n
def c_lrs_iff{x:A_lrs}:=@BC _ iV _ _ rfl x
def lrs:ScanL A_lrs:=⟨12,4,[2,3,5],[2,3,4],zJ,iO,fun x j=>(.i (j:Int)::.i x.k::.n x.n::.n x.pin::.i x.pc::.n x.won::.n x.gvn::.n x.aan::.n x.fvn::.i x.rr::.n x.lrn::.n x.lpn::.i x.ld::.n x.ban::.n x.pan::.i x.cl::.i x.kz::.n x.n::.n x.pinz::.i x.pcz::.n x.wonz::.n x.gvnz::.n x.aanz::.n x.fvnz::.i x.rrz::.n x.lrnz::.n x.lpnz::.i x.ldz::.n x.banz::.n x.panz::.i x.clz::.r x.ca::.r x.pi::.r x.wo::.r x.gv::.r x.aa::.r x.fv::.r x.lr::.r x.lp::.r x.ba::.r x.pa::.r x.caz::.r x.piz::.r x.woz::.r x.gvz::.r x.aaz::.r x.fvz::.r x.lrz::.r x.lpz::.r x.baz::.r x.paz::[]),fun x=>x.n,iV,fun x j=>false,fun x j K=>none,fun x K=>K (.exit 0) ⟨us 2++[.pointer (some ⟨0,0,some 0⟩),.pointer (some ⟨1,0,some 0⟩)]++us 124,[[]],[some (.box [.int .u8 x.k,S_ 2 0 x.n,S_ 3 0 x.pin,.int .u8 x.pc,S_ 4 0 x.won,S_ 5 0 x.gvn,S_ 6 0 x.aan,S_ 7 0 x.fvn,i64 x.rr,S_ 8 0 x.lrn,S_ 9 0 x.lpn,i64 x.ld,S_ 10 0 x.ban,S_ 11 0 x.pan,.int .u8 x.cl]),some (.box [.int .u8 x.kz,S_ 12 0 x.n,S_ 13 0 x.pinz,.int .u8 x.pcz,S_ 14 0 x.wonz,S_ 15 0 x.gvnz,S_ 16 0 x.aanz,S_ 17 0 x.fvnz,i64 x.rrz,S_ 18 0 x.lrnz,S_ 19 0 x.lpnz,i64 x.ldz,S_ 20 0 x.banz,S_ 21 0 x.panz,.int .u8 x.clz]),some (.row [.int .i64,.slice [.int .i64],.slice [.int .i64]] false x.ca),some (.row [.slice [.int .i64,.int .i64,.int .i64,.int .i64]] false x.pi),some (.row [.slice [.int .i64,.int .i64]] false x.wo),some (.row [.slice [.int .i64]] false x.gv),some (.row [.int .i64] false x.aa),some (.row [.slice [.int .i64]] false x.fv),some (.row [.int .i64] false x.lr),some (.row [.int .i64] false x.lp),some (.row [.int .i64] false x.ba),some (.row [.int .i64,.int .i64,.int .i64] false x.pa),some (.row [.int .i64,.slice [.int .i64],.slice [.int .i64]] false x.caz),some (.row [.slice [.int .i64,.int .i64,.int .i64,.int .i64]] false x.piz),some (.row [.slice [.int .i64,.int .i64]] false x.woz),some (.row [.slice [.int .i64]] false x.gvz),some (.row [.int .i64] false x.aaz),some (.row [.slice [.int .i64]] false x.fvz),some (.row [.int .i64] false x.lrz),some (.row [.int .i64] false x.lpz),some (.row [.int .i64] false x.baz),some (.row [.int .i64,.int .i64,.int .i64] false x.paz)]⟩⟩
noncomputable def Crs:Cx:=AU Tryz.prog fns [(52,aV),(50,gX),(51,bV),(53,nN),(54,Va),(55,VL),(56,Zv),(57,kZ)] [lrs.C]
theorem yA(R:St->OD)(K:X->St->OD)(q:Nat)(j k:Int)(n pin:Nat)(pc:Int)(won gvn aan fvn:Nat)(rr:Int)(lrn lpn:Nat)(ld:Int)(ban pan:Nat)(cl kz:Int)(n_2 pinz:Nat)(pcz:Int)(wonz gvnz aanz fvnz:Nat)(rrz:Int)(lrnz lpnz:Nat)(ldz:Int)(banz panz:Nat)(clz:Int)(ca pi wo gv aa fv lr lp ba pa caz piz woz gvz aaz fvz lrz lpz baz paz:Row):Ar Crs 12 4 q (bst zJ (.i j::.i k::.n n::.n pin::.i pc::.n won::.n gvn::.n aan::.n fvn::.i rr::.n lrn::.n lpn::.i ld::.n ban::.n pan::.i cl::.i kz::.n n_2::.n pinz::.i pcz::.n wonz::.n gvnz::.n aanz::.n fvnz::.i rrz::.n lrnz::.n lpnz::.i ldz::.n banz::.n panz::.i clz::.r ca::.r pi::.r wo::.r gv::.r aa::.r fv::.r lr::.r lp::.r ba::.r pa::.r caz::.r piz::.r woz::.r gvz::.r aaz::.r fvz::.r lrz::.r lpz::.r baz::.r paz::[])) (BI [2,3,5] (some [2,3,4]) R K)=br (j<(n:Int)) (br (0<=j&&j<(n:Int)) (br (0<=j&&j<(n_2:Int)) (br (decide (ca.I (0+j.toNat) 0=caz.I (0+j.toNat) 0∧(w_ (ca.R (0+j.toNat) 1) 0 (ca.R (0+j.toNat) 1).n).n<=1000000∧(w_ (ca.R (0+j.toNat) 2) 0 (ca.R (0+j.toNat) 2).n).n<=1000000∧Hm 1 (w_ (ca.R (0+j.toNat) 1) 0 (ca.R (0+j.toNat) 1).n) (w_ (caz.R (0+j.toNat) 1) 0 (caz.R (0+j.toNat) 1).n)∧Hm 1 (w_ (ca.R (0+j.toNat) 2) 0 (ca.R (0+j.toNat) 2).n) (w_ (caz.R (0+j.toNat) 2) 0 (caz.R (0+j.toNat) 2).n))) (R ⟨us 2++[.pointer (some ⟨0,0,some 0⟩),.pointer (some ⟨1,0,some 0⟩)]++us 1++[i64 (IntKind.i64.wrap (j+1))]++us 122,[[]],[some (.box [.int .u8 k,S_ 2 0 n,S_ 3 0 pin,.int .u8 pc,S_ 4 0 won,S_ 5 0 gvn,S_ 6 0 aan,S_ 7 0 fvn,i64 rr,S_ 8 0 lrn,S_ 9 0 lpn,i64 ld,S_ 10 0 ban,S_ 11 0 pan,.int .u8 cl]),some (.box [.int .u8 kz,S_ 12 0 n_2,S_ 13 0 pinz,.int .u8 pcz,S_ 14 0 wonz,S_ 15 0 gvnz,S_ 16 0 aanz,S_ 17 0 fvnz,i64 rrz,S_ 18 0 lrnz,S_ 19 0 lpnz,i64 ldz,S_ 20 0 banz,S_ 21 0 panz,.int .u8 clz]),some (.row [.int .i64,.slice [.int .i64],.slice [.int .i64]] false ca),some (.row [.slice [.int .i64,.int .i64,.int .i64,.int .i64]] false pi),some (.row [.slice [.int .i64,.int .i64]] false wo),some (.row [.slice [.int .i64]] false gv),some (.row [.int .i64] false aa),some (.row [.slice [.int .i64]] false fv),some (.row [.int .i64] false lr),some (.row [.int .i64] false lp),some (.row [.int .i64] false ba),some (.row [.int .i64,.int .i64,.int .i64] false pa),some (.row [.int .i64,.slice [.int .i64],.slice [.int .i64]] false caz),some (.row [.slice [.int .i64,.int .i64,.int .i64,.int .i64]] false piz),some (.row [.slice [.int .i64,.int .i64]] false woz),some (.row [.slice [.int .i64]] false gvz),some (.row [.int .i64] false aaz),some (.row [.slice [.int .i64]] false fvz),some (.row [.int .i64] false lrz),some (.row [.int .i64] false lpz),some (.row [.int .i64] false baz),some (.row [.int .i64,.int .i64,.int .i64] false paz)]⟩) none) none) none) (K (.exit 0) ⟨us 2++[.pointer (some ⟨0,0,some 0⟩),.pointer (some ⟨1,0,some 0⟩)]++us 124,[[]],[some (.box [.int .u8 k,S_ 2 0 n,S_ 3 0 pin,.int .u8 pc,S_ 4 0 won,S_ 5 0 gvn,S_ 6 0 aan,S_ 7 0 fvn,i64 rr,S_ 8 0 lrn,S_ 9 0 lpn,i64 ld,S_ 10 0 ban,S_ 11 0 pan,.int .u8 cl]),some (.box [.int .u8 kz,S_ 12 0 n_2,S_ 13 0 pinz,.int .u8 pcz,S_ 14 0 wonz,S_ 15 0 gvnz,S_ 16 0 aanz,S_ 17 0 fvnz,i64 rrz,S_ 18 0 lrnz,S_ 19 0 lpnz,i64 ldz,S_ 20 0 banz,S_ 21 0 panz,.int .u8 clz]),some (.row [.int .i64,.slice [.int .i64],.slice [.int .i64]] false ca),some (.row [.slice [.int .i64,.int .i64,.int .i64,.int .i64]] false pi),some (.row [.slice [.int .i64,.int .i64]] false wo),some (.row [.slice [.int .i64]] false gv),some (.row [.int .i64] false aa),some (.row [.slice [.int .i64]] false fv),some (.row [.int .i64] false lr),some (.row [.int .i64] false lp),some (.row [.int .i64] false ba),some (.row [.int .i64,.int .i64,.int .i64] false pa),some (.row [.int .i64,.slice [.int .i64],.slice [.int .i64]] false caz),some (.row [.slice [.int .i64,.int .i64,.int .i64,.int .i64]] false piz),some (.row [.slice [.int .i64,.int .i64]] false woz),some (.row [.slice [.int .i64]] false gvz),some (.row [.int .i64] false aaz),some (.row [.slice [.int .i64]] false fvz),some (.row [.int .i64] false lrz),some (.row [.int .i64] false lpz),some (.row [.int .i64] false baz),some (.row [.int .i64,.int .i64,.int .i64] false paz)]⟩):=by kernel_rfl
theorem urs(k:Int)(ca pi:Row)(pc:Int)(wo gv aa fv:Row)(rr:Int)(lr lp:Row)(ld:Int)(ba pa:Row)(cl k2:Int)(ca2 pi2:Row)(pc2:Int)(wo2 gv2 aa2 fv2:Row)(rr2:Int)(lr2 lp2:Row)(ld2:Int)(ba2 pa2:Row)(cl2:Int):BZ Crs 6 12 [Tf k ca pi pc wo gv aa fv rr lr lp ld ba pa cl,Tf k2 ca2 pi2 pc2 wo2 gv2 aa2 fv2 rr2 lr2 lp2 ld2 ba2 pa2 cl2]=br (k !=k2) (some [.v (.bool false)]) (br (cl !=cl2) (some [.v (.bool false)]) (br (pc !=pc2) (some [.v (.bool false)]) (br ((ca.n:Int) !=(ca2.n:Int)) (some [.v (.bool false)]) (br (decide ((w_ pi 0 pi.n).n=(w_ pi2 0 pi2.n).n∧(w_ pi 0 pi.n).n<=1000000∧Qs 4 (w_ pi 0 pi.n) (w_ pi2 0 pi2.n) (w_ pi 0 pi.n).n)) (br (decide ((w_ wo 0 wo.n).n=(w_ wo2 0 wo2.n).n∧(w_ wo 0 wo.n).n<=1000000∧Qs 2 (w_ wo 0 wo.n) (w_ wo2 0 wo2.n) (w_ wo 0 wo.n).n)) (br (iV (⟨0,k,ca.n,pi.n,pc,wo.n,gv.n,aa.n,fv.n,rr,lr.n,lp.n,ld,ba.n,pa.n,cl,k2,ca2.n,pi2.n,pc2,wo2.n,gv2.n,aa2.n,fv2.n,rr2,lr2.n,lp2.n,ld2,ba2.n,pa2.n,cl2,ca,pi,wo,gv,aa,fv,lr,lp,ba,pa,ca2,pi2,wo2,gv2,aa2,fv2,lr2,lp2,ba2,pa2⟩:A_lrs)) (br (Ap (fun j=>false) ca.n 0) none (br (decide ((w_ gv 0 gv.n).n=(w_ gv2 0 gv2.n).n∧(w_ gv 0 gv.n).n<=1000000∧Qs 1 (w_ gv 0 gv.n) (w_ gv2 0 gv2.n) (w_ gv 0 gv.n).n)) (br (decide ((w_ aa 0 aa.n).n<=1000000∧Hm 1 (w_ aa 0 aa.n) (w_ aa2 0 aa2.n))) (br (decide ((w_ fv 0 fv.n).n=(w_ fv2 0 fv2.n).n∧(w_ fv 0 fv.n).n<=1000000∧Qs 1 (w_ fv 0 fv.n) (w_ fv2 0 fv2.n) (w_ fv 0 fv.n).n)) (br (rr !=rr2) (some [.v (.bool false)]) (br (decide (ld=ld2∧(w_ lr 0 lr.n).n<=1000000∧(w_ lp 0 lp.n).n<=1000000∧Hm 1 (w_ lr 0 lr.n) (w_ lr2 0 lr2.n)∧Hm 1 (w_ lp 0 lp.n) (w_ lp2 0 lp2.n))) (br (decide ((w_ ba 0 ba.n).n<=1000000∧Hm 1 (w_ ba 0 ba.n) (w_ ba2 0 ba2.n))) (br (decide ((w_ pa 0 pa.n).n<=1000000∧Hm 3 (w_ pa 0 pa.n) (w_ pa2 0 pa2.n))) (some [.v (.bool true)]) none) none) none)) none) none) none)) none) none) none)))):=by kernel_rfl
theorem Abc:Ai Crs lrs.C:=lrs.ok (by kernel_rfl)
 (fun its x h hc=>by
  replace h:iO its=some x:=h;unfold iO at h;split at h
  ·cases h;obtain⟨h1,h2,h3,h4⟩:=c_lrs_iff.1 hc;dsimp only at h1 h2;subst h1 h2;rfl
  ·cases h)
 (fun x hc=>by have:=c_lrs_iff.1 hc;show x.n<18446744073709551616;omega)
 (fun q ⟨j0,k,n,pin,pc,won,gvn,aan,fvn,rr,lrn,lpn,ld,ban,pan,cl,kz,n_2,pinz,pcz,wonz,gvnz,aanz,fvnz,rrz,lrnz,lpnz,ldz,banz,panz,clz,ca,pi,wo,gv,aa,fv,lr,lp,ba,pa,caz,piz,woz,gvz,aaz,fvz,lrz,lpz,baz,paz⟩ j hc hi R K=>by
  obtain⟨h1,h2,h3,h4⟩:=c_lrs_iff.1 hc;dsimp only at*
  replace hi:j<n:=hi;refine(yA R K q ((j:Int)) k n pin pc won gvn aan fvn rr lrn lpn ld ban pan cl kz n pinz pcz wonz gvnz aanz fvnz rrz lrnz lpnz ldz banz panz clz ca pi wo gv aa fv lr lp ba pa caz piz woz gvz aaz fvz lrz lpz baz paz).trans ?_;have k1:=h4 j hi;rw[A9 j,AE j,gd j n hi,Fe j n hi,FH (by omega),A4 (eqc k1)];subst h2;rfl)
 (fun q ⟨j0,k,n,pin,pc,won,gvn,aan,fvn,rr,lrn,lpn,ld,ban,pan,cl,kz,n_2,pinz,pcz,wonz,gvnz,aanz,fvnz,rrz,lrnz,lpnz,ldz,banz,panz,clz,ca,pi,wo,gv,aa,fv,lr,lp,ba,pa,caz,piz,woz,gvz,aaz,fvz,lrz,lpz,baz,paz⟩ hc R K=>by
  obtain⟨h1,h2,h3,h4⟩:=c_lrs_iff.1 hc;dsimp only at*
  refine(yA R K q ((n:Int)) k n pin pc won gvn aan fvn rr lrn lpn ld ban pan cl kz n pinz pcz wonz gvnz aanz fvnz rrz lrnz lpnz ldz banz panz clz ca pi wo gv aa fv lr lp ba pa caz piz woz gvz aaz fvz lrz lpz baz paz).trans ?_;subst h2;rw[F8];rfl)
end Go.Proofs.YtnljjjghpgdmoaaGreatDoor

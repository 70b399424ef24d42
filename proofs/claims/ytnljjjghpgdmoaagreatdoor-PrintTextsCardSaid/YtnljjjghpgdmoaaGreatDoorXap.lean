/- A part of the proof of PrintTexts. No conditions. -/
import Derived.Test.YtnljjjghpgdmoaaGreatDoorXao
set_option linter.all false
namespace Go.Proofs.YtnljjjghpgdmoaaGreatDoor
open Go.Ev Go.Lib Go.RowKit
def EP{ks:List CK}{r r':Row}(h:RdA ks r r'):RdA ks r' r:=by
 refine RdA.rec (motive_1:=fun ks r r' _=>RdA ks r' r) (motive_2:=fun k r r' e j _=>PX k r' r e j) ?_ ?_ ?_ ?_ ?_ ?_ h
 ·intro ks r r' hn _ ih;exact .mk hn.symm fun e j k he hk=>ih e j k o_ hk
 ·intro k r r' e j h;exact .int h.symm
 ·intro r r' e j h;exact .bool h.symm
 ·intro r r' e j h;exact .str h.symm
 ·intro sub r r' e j _ ih;exact .slice ih
 ·intro r r' e j;exact .other
def DW{ks:List CK}{r r' r'':Row}(h:RdA ks r r')(h2:RdA ks r' r''):RdA ks r r'':=by
 refine RdA.rec (motive_1:=fun ks r r' _=>∀r'',RdA ks r' r''->RdA ks r r'') (motive_2:=fun k r r' e j _=>∀r'',PX k r' r'' e j->PX k r r'' e j) ?_ ?_ ?_ ?_ ?_ ?_ h r'' h2
 ·intro ks r r' hn _ ih r'' h;cases h with
  |mk hn2 hh=>exact .mk (hn.trans hn2) fun e j k he hk=>ih e j k he hk r'' (hh e j k o_ hk)
 ·intro k r r' e j h r'' h2;cases h2 with
  |int h2=>exact .int (h.trans h2)
 ·intro r r' e j h r'' h2;cases h2 with
  |bool h2=>exact .bool (h.trans h2)
 ·intro r r' e j h r'' h2;cases h2 with
  |str h2=>exact .str (h.trans h2)
 ·intro sub r r' e j _ ih r'' h2;cases h2 with
  |slice h2=>exact .slice (ih _ h2)
 ·intro r r' e j r'' _;exact .other
def ER(ks:List CK)(r:Row):RdA ks (Ae r) r:=.mk wn_ fun e j k _ _=>by
 cases k with
 |int k=>exact .int rfl
 |bool=>exact .bool rfl
 |str=>exact .str rfl
 |slice sub=>exact .slice (RdA.refl (r.R e j) sub)
 |other=>exact .other
def AlDc.wD(x:Dc):AlDc (wD x) x:=⟨rfl,ER ..,ER ..,rfl,ER ..,ER ..,ER ..,ER ..,rfl,ER ..,ER ..,rfl,ER ..,ER ..,rfl⟩
def AlDc.symm{x y:Dc}(h:AlDc x y):AlDc y x:=⟨h.k.symm,EP h.ca,EP h.pi,h.pc.symm,EP h.wo,EP h.gv,EP h.aa,EP h.fv,h.rr.symm,EP h.lr,EP h.lp,h.ld.symm,EP h.ba,EP h.pa,h.cl.symm⟩
def AlDc.trans{x y z:Dc}(h:AlDc x y)(g:AlDc y z):AlDc x z:=⟨h.k.trans g.k,DW h.ca g.ca,DW h.pi g.pi,h.pc.trans g.pc,DW h.wo g.wo,DW h.gv g.gv,DW h.aa g.aa,DW h.fv g.fv,h.rr.trans g.rr,DW h.lr g.lr,DW h.lp g.lp,h.ld.trans g.ld,DW h.ba g.ba,DW h.pa g.pa,h.cl.trans g.cl⟩
def IG{m:Nat}{ks:List CK}{r s:Row}(h:RdA ks r s)(hk:∀c,c<m->ks[c]? =some (.int .i64)):Hu m r s:=⟨h.hn,fun j hj c hc=>h.I (hk c hc) hj⟩
def Ajy{x y:Dc}(h:AlDc x y)(o:DcOk x):SmP x y:=by
 have n1:∀c,c<1->V5[c]? =some (.int .i64):=fun c hc=>by rw[lt1 hc];rfl
 have rw1:∀(m:Nat)(sub:List CK)(r s:Row),RdA [.slice sub] r s->(∀c,c<m->sub[c]? =some (.int .i64))->(r.n<=1000000)->(∀e,e<r.n->(r.R e 0).n<=1000000)->r.n=s.n∧r.n<=1000000∧Qv m r s r.n:=fun m sub r s h hk h1 h2=>⟨h.hn,h1,fun i hi=>⟨h2 i hi,IG (h.R (sub:=sub) (c:=0) rfl hi) hk⟩⟩;exact⟨⟨h.k,h.cl,h.pc,h.rr,h.ld⟩,⟨h.ca.hn,o.ca.1,fun i hi=>⟨h.ca.I (k:=.i64) (c:=0) rfl hi,(o.ca.2 i hi).2.1.1,(o.ca.2 i hi).2.2.1,IG (h.ca.R (sub:=V5) (c:=1) rfl hi) n1,IG (h.ca.R (sub:=V5) (c:=2) rfl hi) n1⟩⟩,
  rw1 4 _ _ _ h.pi (fun c hc=>by rcases lt4 hc with rfl|rfl|rfl|rfl<;>rfl) o.pi.1 (fun e he=>(o.pi.2 e he).1),rw1 2 _ _ _ h.wo (fun c hc=>by rcases lt2 hc with rfl|rfl<;>rfl) o.wo.1 (fun e he=>(o.wo.2 e he).1),rw1 1 _ _ _ h.gv n1 o.gv.1 (fun e he=>(o.gv.2 e he).1),
  ⟨o.aa.1,IG h.aa n1⟩,rw1 1 _ _ _ h.fv n1 o.fv.1 (fun e he=>(o.fv.2 e he).1),⟨o.lr.1,IG h.lr n1⟩,⟨o.lp.1,IG h.lp n1⟩,⟨o.ba.1,IG h.ba n1⟩,⟨o.pa.1,IG h.pa fun c hc=>by rcases lt3 hc with rfl|rfl|rfl<;>rfl⟩⟩
def Al4{k:Int}:DcOk (EG (Zn k)):=by
 have a:NumsOk .nil:=⟨Nat.zero_le _,fun j hj=>absurd hj (Nat.not_lt_zero _)⟩;have z:(0:Int)<=0∧(0:Int)<=255:=d_;have b:∀m,RowsOk m .nil:=fun m=>⟨Nat.zero_le _,fun j hj=>absurd hj (Nat.not_lt_zero _)⟩;exact{ca:=⟨Nat.zero_le _,fun j hj=>absurd hj (Nat.not_lt_zero _)⟩,pi:=b 4,wo:=b 2,gv:=b 1,aa:=a,fv:=b 1,lr:=a,lp:=a,ba:=a,pa:=⟨Nat.zero_le _,fun j hj=>absurd hj (Nat.not_lt_zero _)⟩,rr:=Zc,ld:=Zc,pc:=z,cl:=z}
def Tu{s:Y_}(hs:s.size<=60000):DcOk (EG (MW s)):=by
 have hr:=Ln.rest_le s;have hl:=Ln.lnN_le (Ln.restB s);have h:=UL (stop:=lpl.stop (ZC s (Ln.restB s) (EH (Ln.oneB s)))) (nx:=lpl.nx (ZC s (Ln.restB s) (EH (Ln.oneB s)))) (Inv:=fun j a=>a.rest.size<=60000∧SzP a.p j∧DcOk (EG a.p)) (len:=Ln.lnN (Ln.restB s))
  (fun j a hj hI _=>by
   have h1:=Ln.rest_le a.rest;have h2:=Ln.one_size a.rest;exact⟨Nat.le_trans h1 hI.1,hI.2.1.rd _ _,Ajp (s:=Ln.oneB a.rest) (p:=a.p) (j:=j) (by have:=hI.1;omega) hI.2.1 o_ hI.2.2⟩)
  (m:=Ln.lnN (Ln.restB s)) (j:=0) (a:=lpl.ini (ZC s (Ln.restB s) (EH (Ln.oneB s)))) o_ ⟨by show(Ln.restB s).size<=60000;omega,⟨AC _,AC _,AC _,AC _,AC _,AC _⟩,Al4⟩
 exact h.1.2.2
def dE{x:Dc}(h:DcOk x):uC x=true:=by
 have h2:=h.al (AlDc.can x);unfold uC tcG;rw[kS h2,Bool.true_and];by_cases e:ckE vB (Bd x)=0
 ·rw[zS h2 e];simp
 ·rw[show(ckE vB (Bd x) !=0)=true by simpa using e];rfl
def Aip{s:Y_}(hs:s.size<=60000):yJ s=true:=by
 unfold yJ;rw[dE (Tu hs)];simp
def Aox{x:Dc}(h:teG x=0):ckE vB x=0∧(GZ x).length<=60000∧tsG x=txt (GZ x):=by
 unfold teG JG at h;obtain⟨h1,h2⟩:=Xg h;obtain⟨h3,_⟩:=bz d_ h2;refine⟨h1,by have:=AO h3;omega,?_⟩;unfold tsG JJ;rw[h1,h3];rfl
def Ani{s:Y_}(h:UU s=true):TD s=EG (MW s)∧DY (TD s)=0∧NI (TD s)=s∧ckE vB (Bd (TD s))=0:=by
 have ed:TD s=EG (MW s):=by unfold TD;rw[h];rfl
 have hk:=h;unfold UU at hk;simp only[A2,beq_iff_eq]at hk;obtain⟨_,_,h1,h2⟩:=hk;have h2':NI (EG (MW s))=s:=Bz _ _|>.1 (by simpa using h2);rw[ed];exact⟨rfl,h1,h2',(Aox h1).1⟩
structure WfX(x:Dc):Prop where
 ca:WfR kC1 x.ca
 pi:WfR kP1 x.pi
 wo:WfR kW1 x.wo
 gv:WfR kL1 x.gv
 aa:WfR V5 x.aa
 fv:WfR kL1 x.fv
 lr:WfR V5 x.lr
 lp:WfR V5 x.lp
 ba:WfR V5 x.ba
 pa:WfR k31 x.pa
 rr:iR x.rr=true
 ld:iR x.ld=true
 pc:0<=x.pc∧x.pc<=255
 cl:0<=x.cl∧x.cl<=255
def Agk{ks:List CK}{r:Row}(h:WfR ks r):r.n<=9223372036854775807:=by cases h with|mk h _=>exact h
def Aat{ks:List CK}{r:Row}(h:WfR ks r){c:Nat}(hc:ks[c]? =some (.int .i64)){e:Nat}(he:e<r.n):iR (r.I e c)=true:=by
 cases h with
 |mk _ hh=>
  cases hh e c _ he hc with
  |int h=>exact A4 (wf64.1 h)
def Ah3{ks:List CK}{r:Row}(h:WfR ks r){sub:List CK}{c:Nat}(hc:ks[c]? =some (.slice sub)){e:Nat}(he:e<r.n):WfR sub (r.R e c):=by
 cases h with
 |mk _ hh=>
  cases hh e c _ he hc with
  |slice h=>exact h
def nums_wf{r:Row}(h:WfR V5 r)(hn:r.n<=1000000):NumsOk r:=⟨hn,fun j hj=>Aat h rfl hj⟩
def NZ{m:Nat}{sub:List CK}{r:Row}(h:WfR [.slice sub] r)(hs:∀c,c<m->sub[c]? =some (.int .i64))(hn:r.n<=1000000)(hr:∀e,e<r.n->(r.R e 0).n<=1000000):RowsOk m r:=⟨hn,fun e he=>⟨hr e he,fun j hj c hc=>Aat (Ah3 h (sub:=sub) (c:=0) rfl he) (hs c hc) hj⟩⟩
def lM{x:Dc}(h:WfX x)(hg:grX x=false):DcOk x:=by
 unfold grX at hg;simp only[AI]at hg;obtain⟨g1,g2,g3,g4,g5,g6,g7,g8⟩:=hg;unfold gr6 at g3;simp only[AI]at g3;obtain⟨_,g3,g9⟩:=g3;unfold gr4 at g3;simp only[AI]at g3;obtain⟨g3,g10⟩:=g3;have n1:x.ca.n<=10:=by have:=AO g10;have e:(Ae (Ae x.ca)).n=x.ca.n:=rfl;omega
 have n2:x.pi.n<=10:=by have:=AO g9;have e:(Ae x.pi).n=x.pi.n:=rfl;omega
 have n3:x.wo.n<=20:=by have:=AO g4;omega
 unfold WZ at g5;simp only[AI]at g5;obtain⟨g5,g11,g12⟩:=g5;have n4:x.gv.n<=20:=by have:=AO g11;have e:(Ae x.gv).n=x.gv.n:=rfl;omega
 have n5:x.aa.n<=50:=by have:=AO g12;have e:(Ae x.aa).n=x.aa.n:=rfl;omega
 unfold X9 Xk at g6;simp only[AI]at g6;obtain⟨⟨g13,_,g14⟩,g15,g16⟩:=g6;have n6:x.fv.n<=20:=by have:=AO g14;have e:(Ae (Ae x.fv)).n=x.fv.n:=rfl;omega
 have n7:x.lr.n<=50:=by have:=AO g15;have e:(Ae x.lr).n=x.lr.n:=rfl;omega
 have n8:x.lp.n<=50:=by have:=AO g16;have e:(Ae x.lp).n=x.lp.n:=rfl;omega
 unfold grb at g7;simp only[AI]at g7;have n9:x.ba.n<=20:=by have:=AO g7.2;have e:(Ae x.ba).n=x.ba.n:=rfl;omega
 unfold gpn at g8;simp only[AI]at g8;have n10:x.pa.n<=210:=by have:=AO g8.2;omega
 exact{
  ca:=⟨o_,fun e he=>by
   have q:jF (x.ca.R e 1) (x.ca.R e 2)=false:=IB g3 (j:=e) he;unfold jF at q;simp only[AI]at q;have q1:=AO q.1;have q2:=AO q.2;exact⟨Aat h.ca rfl he,nums_wf (Ah3 h.ca (c:=1) rfl he) o_,nums_wf (Ah3 h.ca (c:=2) rfl he) o_⟩⟩
  pi:=NZ h.pi (fun c hc=>by rcases lt4 hc with rfl|rfl|rfl|rfl<;>rfl) o_ fun e he=>by
   have q:=IB g1 he;unfold Uk at q;simp only[AI]at q;have:=AO q.2;omega
  wo:=NZ h.wo (fun c hc=>by rcases lt2 hc with rfl|rfl<;>rfl) o_ fun e he=>by
   have:=AO (IB g2 he);omega
  gv:=NZ h.gv (fun c hc=>by rw[lt1 hc];rfl) o_ fun e he=>by
   have q:¬((x.gv.R e 0).n:Int)>50:=AO (anyF_false.1 g5 e (Nat.zero_le _) (by have e1:(Ae x.gv).n=x.gv.n:=rfl;omega));omega
  aa:=nums_wf h.aa o_
  fv:=NZ h.fv (fun c hc=>by rw[lt1 hc];rfl) o_ fun e he=>by
   have q:¬((x.fv.R e 0).n:Int)>50:=AO (anyF_false.1 g13 e (Nat.zero_le _) (by have e1:(Ae (Ae x.fv)).n=x.fv.n:=rfl;omega));omega
  lr:=nums_wf h.lr o_
  lp:=nums_wf h.lp o_
  ba:=nums_wf h.ba o_
  pa:=⟨o_,fun e he c hc=>Aat h.pa (by rcases lt3 hc with rfl|rfl|rfl<;>rfl) he⟩
  rr:=h.rr,ld:=h.ld,pc:=h.pc,cl:=h.cl}
def Aqx(c b:Dc->Bool):FD
 |[d]=>match Fe d with
  |some x=>some (c x,[.v (.bool (b x))])
  |none=>none
 |_=>none
def Ar4(c:Dc->Dc->Bool):FD
 |[d,e]=>match Fe d,Fe e with
  |some x,some y=>some (c x y,[.v (.bool true)])
  |_,_=>none
 |_=>none
def Wu(c:Dc->Bool)(e:Dc->Int):FD
 |[d]=>match Fe d with
  |some x=>some (c x,[.v (i64 (e x))])
  |none=>none
 |_=>none
def tT:OD:=some [.v (.bool true)]
def O6(x:Dc):Int:=ckE vB (Bd x)
def jE(x:Dc):Bool:=ckC vB (Bd x)
def Aau:DenW Tryz.prog Wd 10 (Wu jE O6):=(Y7 Afl).canon.less fun ds rs h=>by
 unfold Wu at h;split at h
 ·rename_i d;split at h
  ·rename_i x hx;have e:=CZ hx;subst e;exact h
  ·cases h
 ·cases h
def Ai4(x:Dc):Bd (wD x)=Bd x:=(AlDc.wD x).eq
def ET{ks:List CK}{r:Row}(h:WfR ks r):WfR ks (Ae r):=by
 cases h with
 |mk h hh=>
  refine .mk (by rw[Ant];exact h) fun e j k he hk=>?_;rw[Ant]at he;have g:=hh e j k he hk;cases g with
  |int g=>exact .int g
  |bool=>exact .bool
  |str g=>exact .str g
  |slice g=>exact .slice g
def WfX.wD{x:Dc}(h:WfX x):WfX (wD x):=⟨ET h.ca,ET h.pi,ET h.wo,ET h.gv,ET h.aa,ET h.fv,ET h.lr,ET h.lp,ET h.ba,ET h.pa,h.rr,h.ld,h.pc,h.cl⟩
end Go.Proofs.YtnljjjghpgdmoaaGreatDoor
namespace Go.Proofs.YtnljjjghpgdmoaaGreatDoor.Sc
open Go.Dec Go.Ev Go.Lib Go.RowKit
open Go.Proofs.YtnljjjghpgdmoaaGreatDoor.Ln (pieces pieces_app pieces_none)
open Go.Proofs.YtnljjjghpgdmoaaGreatDoor.Rt (txt_app txt_by txt_size AZ getD_by by_inj D6)
set_option maxRecDepth 100000
def IM(n:Int):Y_:=PR ((Row.zeros 1).setI 0 0 (IntKind.u8.wrap (IntKind.i64.wrap (48+n.tmod 10)))) 0 1
def SD(n:Int)(s:Y_):St:=⟨[i64 n]++us 2++[.string s]++us 27,[[]],[]⟩
def SDx(s:Y_):St:=⟨us 3++[.string s]++us 27,[[]],[]⟩
def dcT(u:Nat)(s:Y_):Y_:=if u=0 then s else txt (decDigits u)++s
def GDc(n:Int)(s:Y_):Bool:=0<=n∧n<9223372036854775808∧s.size<=900
def GD:List It->(X->St->OD)->OD
 |[.i n,.s s],k=>br (GDc n s) (k (.exit 0) (SDx (dcT n.toNat s))) none
 |_,_=>none
def lD:LoopC where
 f:=26
 id:=5
 lv:=[0,3]
 lx:=[2,3]
 p:={τ:=[.v (.int .i64)]++pu 2++[.v .str]++pu 27,saved:=[[]],mem:=[]}
 G:=GD
def TS(c:Int->Bool)(dd:Int->Y_):FD
 |[.v (.int .i64 n)]=>some (c n,[.v (.string (dd n))])
 |_=>none
noncomputable def yC(c:Int->Bool)(dd:Int->Y_):Cx:=AP Tryz.prog fns [(26,TS c dd)] [lD]
def VW(c:Int->Bool)(dd:Int->Y_)(p:Nat)(R:St->OD)(K:X->St->OD)(n:Int)(s:Y_):AA (yC c dd) 26 true (inl (yC c dd) (p+4)) (Cm (yC c dd).P 26 5) (SD n s) (BF [0,3] (some [2,3]) R K)=br (n>0) (br (((((IM n).size+s.size:Nat)):Int)>IntKind.i64.max) none (R (SD (IntKind.i64.wrap (n.tdiv 10)) (IM n++s)))) (K (.exit 0) (SDx s)):=k_
def mn:Y_:=⟨⟨[45]⟩⟩
def u42(c:Int->Bool)(dd:Int->Y_)(n:Int):BH (yC c dd) 6 26 [.v (i64 n)]=br (n<0) (br (c (IntKind.i64.wrap (0-n))) (br (((mn.size+(dd (IntKind.i64.wrap (0-n))).size:Nat):Int)>IntKind.i64.max) none (some [.v (.string (mn++dd (IntKind.i64.wrap (0-n))))])) none) (br (GDc (IntKind.i64.wrap (n.tdiv 10)) (IM n)) (some [.v (.string (dcT (IntKind.i64.wrap (n.tdiv 10)).toNat (IM n)))]) none):=k_
def nuF:OD:=some [.v (i64 0),.v (.bool false)]
def Ru(x:Y_):Int:=(((x.data.getD 0 0).toNat:Nat):Int)
def gd0(x:Y_):Bool:=decide ((0:Int)<=0)&&decide ((0:Int)<(x.size:Int))
def TP(x:Y_)(i:Nat)(n:Int):Bool:=decide ((((x.data.getD i 0).toNat:Nat):Int)<48)||decide ((((x.data.getD i 0).toNat:Nat):Int)>57)
def VU(x:Y_)(i:Nat)(n:Int):Int:=10*n+((((x.data.getD i 0).toNat:Nat):Int)-48)
def p47:Dl:={τ:=[.v (.str)]++pu 3++[.v (.bool),.v (.int .i64),.v (.int .i64)]++pu 65,saved:=[[]],mem:=[]}
def d47(its:List It):Option (Y_×Bool×Int×Int):=match its with|[.s x,.b g,.i n,.i i]=>some (x,g,n,i)|_=>none
def c47(x:Y_)(n i:Int):Bool:=x.size<=10∧n=0∧i=0
def c47_iff{x:Y_}{n i:Int}:c47 x n i=true↔x.size<=10∧n=0∧i=0:=by unfold c47;rw[A3]
def l47:RunL (Y_×Bool×Int×Int) Int:=⟨118,8,[0,4,5,6],[2,3,4,5],p47,d47,fun(x,g,n,i) j a=>[.s x,.b g,.i a,.i j],fun(x,g,n,i)=>x.size,fun(x,g,n,i)=>c47 x n i,fun(x,g,n,i)=>n,fun(x,g,n,i)=>TP x,fun(x,g,n,i)=>VU x,fun(x,g,n,i) j a K=>K .ret ⟨us 2++[i64 0,.bool false,.bool g,i64 a]++us 66,[[]],[]⟩,fun(x,g,n,i) a K=>K (.exit 0) ⟨us 4++[.bool g,i64 a]++us 66,[[]],[]⟩⟩
noncomputable def C47:Cx:=AP Tryz.prog fns [] [l47.C]
def r47(R:St->OD)(K:X->St->OD)(q:Nat)(x:Y_)(g:Bool)(n i:Int):Ak C47 118 8 q (bst p47 [.s x,.b g,.i n,.i i]) (BF [0,4,5,6] (some [2,3,4,5]) R K)=br (i<(x.size:Int)) (br (0<=i&&i<(x.size:Int)) (br ((↑(x.data.getD i.toNat 0).toNat:Int)<48) (K .ret ⟨us 2++[i64 0,.bool false,.bool g,i64 n]++us 66,[[]],[]⟩) (br (0<=i&&i<(x.size:Int)) (br ((↑(x.data.getD i.toNat 0).toNat:Int)>57) (K .ret ⟨us 2++[i64 0,.bool false,.bool g,i64 n]++us 66,[[]],[]⟩) (br (0<=i&&i<(x.size:Int)) (R ⟨[.string x]++us 3++[.bool g,i64 (IntKind.i64.wrap (IntKind.i64.wrap (10*n)+IntKind.i64.wrap (IntKind.u8.wrap ((↑(x.data.getD i.toNat 0).toNat:Int)-48)))),i64 (IntKind.i64.wrap (i+1))]++us 65,[[]],[]⟩) none)) none)) none) (K (.exit 0) ⟨us 4++[.bool g,i64 n]++us 66,[[]],[]⟩):=k_
def cuB(s:Y_)(c:Int)(i:Nat):Bool:=(i:Int)==(s.size:Int)||(((s.data.getD i 0).toNat:Nat):Int)==c
def psC(o:Row)(x:Y_):Row:=(w_ o 0 o.n).app (w_ ((Row.zeros 1).setS 0 0 x) 0 1)
def Sm(s:Y_)(c:Int)(i:Nat)(a:Row×Nat):Row×Nat:=bif cuB s c i then(psC a.1 (s.extract a.2 i),i+1)else a
def p32:Dl:={τ:=[.v (.str),.v (.int .u8)]++pu 3++[.v (.sl 0),.v (.int .i64),.v (.int .i64)]++pu 27,saved:=[[]],mem:=[.row [.str] true]}
def d32(its:List It):Option (Y_×Int×Nat×Int×Int×Row):=match its with|[.s s,.i c,.n n,.i f,.i i,.r o]=>some (s,c,n,f,i,o)|_=>none
def c32(s:Y_)(n:Nat)(f i:Int)(o:Row):Bool:=s.size<=1000000∧n=o.n∧o.n=0∧f=0∧i=0
def c32_iff{s:Y_}{n:Nat}{f i:Int}{o:Row}:c32 s n f i o=true↔s.size<=1000000∧n=o.n∧o.n=0∧f=0∧i=0:=by unfold c32;rw[A3]
def l32:FoldL (Y_×Int×Nat×Int×Int×Row) (Row×Nat):=⟨29,4,[0,1,5,6,7,100005],[4,5],p32,d32,fun(s,c,n,f,i,o) j a=>[.s s,.i c,.n a.1.n,.i a.2,.i j,.r a.1],fun(s,c,n,f,i,o)=>s.size+1,fun(s,c,n,f,i,o)=>c32 s n f i o,fun(s,c,n,f,i,o)=>(o,0),fun(s,c,n,f,i,o)=>Sm s c,fun _ a K=>K (.exit 0) ⟨us 5++[S_ 0 0 a.1.n]++us 29,[[]],[some (.row [.str] true a.1)]⟩⟩
noncomputable def yK:Cx:=AP Tryz.prog fns [] [l32.C]
def r32(R:St->OD)(K:X->St->OD)(q:Nat)(s:Y_)(c:Int)(n:Nat)(f i:Int)(o:Row):Ak yK 29 4 q (bst p32 [.s s,.i c,.n n,.i f,.i i,.r o]) (BF [0,1,5,6,7,100005] (some [4,5]) R K)=br (i<=(s.size:Int)) (br (i==(s.size:Int)) (br (0<=i&&i<=(s.size:Int)) (br (0<=f&&f<=(i.toNat:Int)) (br (n+(w_ ((Row.zeros 1).setS 0 0 (s.extract f.toNat i.toNat)) 0 1).n<=10000000000) (R ⟨[.string s,.int .u8 c]++us 3++[S_ 0 0 (n+1),i64 (IntKind.i64.wrap (i+1)),i64 (IntKind.i64.wrap (i+1))]++us 27,[[]],[some (.row [.str] true ((w_ o 0 n).app (w_ ((Row.zeros 1).setS 0 0 (s.extract f.toNat i.toNat)) 0 1)))]⟩) none) none) none) (br (0<=i&&i<(s.size:Int)) (br ((↑(s.data.getD i.toNat 0).toNat:Int)==c) (br (0<=i&&i<=(s.size:Int)) (br (0<=f&&f<=(i.toNat:Int)) (br (n+(w_ ((Row.zeros 1).setS 0 0 (s.extract f.toNat i.toNat)) 0 1).n<=10000000000) (R ⟨[.string s,.int .u8 c]++us 3++[S_ 0 0 (n+1),i64 (IntKind.i64.wrap (i+1)),i64 (IntKind.i64.wrap (i+1))]++us 27,[[]],[some (.row [.str] true ((w_ o 0 n).app (w_ ((Row.zeros 1).setS 0 0 (s.extract f.toNat i.toNat)) 0 1)))]⟩) none) none) none) (R ⟨[.string s,.int .u8 c]++us 3++[S_ 0 0 n,i64 f,i64 (IntKind.i64.wrap (i+1))]++us 27,[[]],[some (.row [.str] true o)]⟩)) none)) (K (.exit 0) ⟨us 5++[S_ 0 0 n]++us 29,[[]],[some (.row [.str] true o)]⟩):=k_
def u32(s:Y_)(c:Int):BH yK 6 29 [.v (.string s),.v (.int .u8 c)]=br (c32 s 0 0 0 Row.nil) (some [.slice [.str] (w_ (BK (l32.nx (s,c,0,0,0,Row.nil)) (l32.len (s,c,0,0,0,Row.nil)) 0 (l32.ini (s,c,0,0,0,Row.nil))).1 0 (BK (l32.nx (s,c,0,0,0,Row.nil)) (l32.len (s,c,0,0,0,Row.nil)) 0 (l32.ini (s,c,0,0,0,Row.nil))).1.n)]) (none):=k_
def NM(u:Nat)(h:u<9223372036854775808):IM (u:Int)=txt [UInt8.ofNat (48+u%10)]:=by
 have e1:((u:Int)).tmod 10=((u%10:Nat):Int):=by rw[Int.tmod_eq_emod_of_nonneg o_];omega
 have e2:IntKind.u8.wrap (IntKind.i64.wrap (48+((u%10:Nat):Int)))=((48+u%10:Nat):Int):=by
  rw[wrap64 o_ o_];exact H9 (by simp[Lit.wf,IntKind.min,IntKind.max,IntKind.signed,IntKind.bits];omega)
 unfold IM;rw[e1,e2];show txt [UInt8.ofNat (((48+u%10:Nat):Int)).toNat]=_;rw[A9]
def rG:IntKind.i64.max=9223372036854775807:=d_
def YF{u:Nat}(h:u≠0)(s:Y_):dcT (u/10) (txt [UInt8.ofNat (48+u%10)]++s)=dcT u s:=by
 unfold dcT;rw[AL h];by_cases hs:u<10
 ·rw[AM o_,decDigits_one hs,show 48+u%10=48+u by omega]
 ·rw[AL o_,BV hs,<-txt_app,ByteArray.append_assoc]
def Ot{f:St->(X->St->OD)->OD}(hr:∀n s R K,f (SD n s) (BF [0,3] (some [2,3]) R K)=br (decide (n>0)) (br (decide (((((IM n).size+s.size:Nat)):Int)>IntKind.i64.max)) none (R (SD (IntKind.i64.wrap (n.tdiv 10)) (IM n++s)))) (K (.exit 0) (SDx s)))(K:X->St->OD):
  ∀(N u:Nat)(s:Y_),(u=0∨nDigits u<=N)->u<9223372036854775808->s.size+N<=1000->∀F,N<F->rounds [0,3] (some [2,3]) f F (SD u s) K=K (.exit 0) (SDx (dcT u s))
 |N,0,s,h,_,_,F,hF=>by
  obtain⟨F,rfl⟩:∃F',F=F'+1:=⟨F-1,o_⟩;rw[DF,hr];rfl
 |0,u+1,s,h,_,_,F,_=>by have:=nDigits_pos (u+1);omega
 |N+1,u+1,s,h,h1,h2,F,hF=>by
  obtain⟨F,rfl⟩:∃F',F=F'+1:=⟨F-1,o_⟩;have hsz:(txt [UInt8.ofNat (48+(u+1)%10)]).size=1:=rfl;have e1:(((u+1:Nat):Int)).tdiv 10=(((u+1)/10:Nat):Int):=by rw[Int.tdiv_eq_ediv_of_nonneg o_];omega
  rw[DF,hr,A4 (show((u+1:Nat):Int)>0 by omega),Aa,NM (u+1) h1,hsz,AB (show¬(((1+s.size:Nat):Int)>IntKind.i64.max) by rw[rG];omega),Ac,e1,wrap64 o_ o_];rw[Ot hr K N ((u+1)/10) (txt [UInt8.ofNat (48+(u+1)%10)]++s) (by
   by_cases hs:u+1<10
   ·exact .inl o_
   ·have:=nDigits_big hs;exact .inr o_) o_ (by rw[ByteArray.size_append,hsz];omega) F o_,YF o_]
def rC(c:Int->Bool)(dd:Int->Y_):Ah (yC c dd) lD:=⟨k_,fun q its k rr h=>by
 show rounds [0,3] (some [2,3]) (AA (yC c dd) 26 true (inl (yC c dd) (q+4)) (Cm (yC c dd).P 26 5)) 18446744073709551616 (bst lD.p its) k=some rr;change GD its k=some rr at h;unfold GD at h;split at h
 ·rename_i n s;rcases CY h with⟨h1,h2⟩|⟨_,h2⟩
  ·obtain⟨k1,k2,k3⟩:=AD h1;obtain⟨u,rfl⟩:=Int.eq_ofNat_of_zero_le k1;rw[<-h2,A9];exact Ot (fun n s R K=>VW c dd q R K n s) k 19 u s (.inr (nDigits_lt 18 u o_)) o_ o_ _ o_
  ·cases h2
 ·cases h⟩
def xC{c:Int->Bool}{dd:Int->Y_}(h:Den Tryz.prog 26 (TS c dd)):Be (yC c dd):=Aj enter mixed (Aw h AX) (Aw (rC c dd) AX)
def EG(n:Int):Bool:=decide (0<=n)&&decide (n<9223372036854775808)
def dcA(n:Int):Bool:=decide (-9223372036854775808<n)&&decide (n<9223372036854775808)
def ddP(n:Int):Y_:=txt (itoa n)
def TZ{c:Int->Bool}{dd:Int->Y_}(n:Int)(h0:0<=n)(h1:n<9223372036854775808):BH (yC c dd) 6 26 [.v (i64 n)]=some [.v (.string (ddP n))]:=by
 obtain⟨u,rfl⟩:=Int.eq_ofNat_of_zero_le h0;have e1:((u:Int)).tdiv 10=((u/10:Nat):Int):=by rw[Int.tdiv_eq_ediv_of_nonneg o_];omega
 refine(u42 c dd u).trans ?_;rw[AB o_,Ac,e1,wrap64 o_ o_,NM u o_,show GDc ((u/10:Nat):Int) (txt [UInt8.ofNat (48+u%10)])=true from A4 ⟨o_,o_,Nat.le_of_ble_eq_true rfl⟩,Aa,A9]
 congr 3
 unfold ddP;rw[itoa_nonneg u];by_cases hu:u=0
 ·subst hu;unfold dcT;rw[AM o_,decDigits_one o_]
 ·have:=YF hu ⟨#[]⟩;have e:∀x:Y_,x++(⟨#[]⟩:Y_)=x:=fun x=>by
   have:=txt_app (Ad x) [];rw[List.append_nil,txt_by]at this;exact this
  rw[e]at this;rw[this];unfold dcT;rw[AL hu,e]
def kG:Den Tryz.prog 26 (TS (fun _=>false) ddP):=fun wb ds rs h=>by
 unfold TS at h;split at h<;>cases h
def fB:Den Tryz.prog 26 (TS EG ddP):=Af (xC kG) fun ds rs h=>by
 unfold TS at h;split at h
 ·rename_i n;simp only[A5,A6,EG,A2,A3]at h;obtain⟨⟨h0,h1⟩,rfl⟩:=h;exact TZ n h0 h1
 ·cases h
def Fdec:FD:=TS dcA ddP
def C9{n:Int}(h:iR n=true):(itoa n).length<=21:=by
 obtain⟨h0,h1⟩:=iR_iff.1 h;unfold itoa;by_cases hn:n<0
 ·rw[AM hn];have:=decDigits_length n.natAbs;have h3:=nDigits_lt 19 n.natAbs o_;simp only[List.length_cons];omega
 ·rw[AL hn];have:=decDigits_length n.toNat;have h3:=nDigits_lt 19 n.toNat o_;omega
def den_dec:Den Tryz.prog 26 Fdec:=Af (xC fB) fun ds rs h=>by
 unfold Fdec TS at h;split at h
 ·rename_i n;simp only[A5,A6,dcA,A2,A3]at h;obtain⟨⟨h0,h1⟩,rfl⟩:=h;by_cases hn:n<0
  ·refine(u42 EG ddP n).trans ?_;have h2:(ddP (0-n)).size<=21:=by
    unfold ddP;rw[txt_size];exact C9 (iR_iff.2 o_)
   rw[A4 hn,Aa,wrap64 o_ o_,show EG (0-n)=true by unfold EG;simp only[A2,A3];omega,Aa,AB (show¬(((mn.size+(ddP (0-n)).size:Nat):Int)>IntKind.i64.max) by rw[rG,show mn.size=1 from rfl];omega),Ac]
   congr 4
   unfold ddP;show txt [45]++_=_;rw[txt_app];obtain⟨u,rfl⟩:∃u:Nat,n= -(u:Int):=⟨n.natAbs,o_⟩;rw[itoa_neg u o_,show(0:Int)- -(u:Int)=(u:Int) by omega,itoa_nonneg u];rfl
  ·exact TZ n o_ h1
 ·cases h
def Vt(s:Y_):Bool:=decide ((s.size:Int)>1)&&Ru s==45
def Jy(s:Y_):Y_:=bif Vt s then s.extract 1 s.size else s
def J7(x:Y_):Bool×Nat×Int:=Bf (TP x) (VU x) x.size 0 0
def nuH(g:Bool)(x:Y_):OD:=br (c47 x 0 0) (br (J7 x).1 nuF (br g (some [.v (i64 (IntKind.i64.wrap (0-(J7 x).2.2))),.v (.bool true)]) (some [.v (i64 (J7 x).2.2),.v (.bool true)]))) none
def nuT(q:Bool)(x:Y_)(H:OD):OD:=br (decide ((x.size:Int)<1)) nuF (br (decide ((x.size:Int)>10)) nuF (br (decide ((x.size:Int)>1)) (br (gd0 x) (br (Ru x==48) nuF (br q (br (gd0 x) (br (Ru x==48) nuF H) none) H)) none) (br q (br (gd0 x) (br (Ru x==48) nuF H) none) H)))
def Anz(x:Y_)(H:OD):OD:=br (decide ((x.size:Int)<1)) nuF (br (decide ((x.size:Int)>10)) nuF (br (decide ((x.size:Int)>1)) (br (gd0 x) (br (Ru x==48) nuF H) none) H))
def u47(s:Y_):BH C47 6 118 [.v (.string s)]=br ((s.size:Int)>1) (br (gd0 s) (br (Ru s==45) (br ((0:Int)<=(s.size:Int)&&(s.size:Int)<=(s.size:Int)) (br ((0:Int)<=1&&(1:Int)<=(((s.size:Int).toNat:Nat):Int)) (nuT (Ru s==45) (s.extract 1 s.size) (nuH (Ru s==45) (s.extract 1 s.size))) none) none) (nuT (Ru s==45) s (nuH (Ru s==45) s))) none) (Anz s (nuH false s)):=k_
def Aqa:Ah C47 l47.C:=l47.ok (fun(x,g,n,i) j a=>0<=a∧a<10^j) k_
 (fun its x h hc=>by
  replace h:d47 its=some x:=h;unfold d47 at h;split at h
  ·cases h;obtain⟨h1,h2,h3⟩:=c47_iff.1 hc;subst h2 h3;rfl
  ·cases h)
 (fun⟨x,g,n,i⟩ hc=>by have:=(c47_iff.1 hc).1;show x.size<2^64;omega)
 (fun⟨x,g,n,i⟩ hc=>by obtain⟨_,h2,_⟩:=c47_iff.1 hc;subst h2;exact⟨Int.le_refl _,(by show(0:Int)<10^0;decide)⟩)
 (fun⟨x,g,n,i⟩ j a hc hj hI hs=>by
  obtain⟨h1,h2⟩:=hI;replace hs:TP x j a=false:=hs;unfold TP at hs;simp only[AI,decide_eq_false_iff_not]at hs;show 0<=VU x j a∧VU x j a<10^(j+1);unfold VU;rw[Int.pow_succ];omega)
 (fun q ⟨x,g,n,i⟩ j a hc hj hI R K=>by
  obtain⟨h0,_,_⟩:=c47_iff.1 hc;obtain⟨h1,h2⟩:=hI;replace hj:j<x.size:=hj;have h3:(10:Int)^j<=10^10:=by
   have:j=0∨j=1∨j=2∨j=3∨j=4∨j=5∨j=6∨j=7∨j=8∨j=9:=o_;rcases this with e|e|e|e|e|e|e|e|e|e<;>rw[e]<;>decide
  have key:∀v:Int,48<=v->v<=57->IntKind.u8.wrap (v-48)=v-48:=fun v h1 h2=>H9 (by simp[Lit.wf,IntKind.min,IntKind.max,IntKind.signed,IntKind.bits];omega);have h4:(10:Int)^10=10000000000:=d_;refine(r47 R K q x g a j).trans ?_;rw[A9,gd j x.size hj,DX j x.size hj,Eg o_];show br true (br true (br (decide ((((x.data.getD j 0).toNat:Nat):Int)<48)) _ (br true (br (decide ((((x.data.getD j 0).toNat:Nat):Int)>57)) _ _) _)) _) _=br (TP x j a) _ _;unfold TP;by_cases a1:(((x.data.getD j 0).toNat:Nat):Int)<48
  ·rw[A4 a1];rfl
  ·by_cases a2:(((x.data.getD j 0).toNat:Nat):Int)>57
   ·rw[AB a1,A4 a2];rfl
   ·rw[AB a1,AB a2];have e:IntKind.i64.wrap (IntKind.i64.wrap (10*a)+IntKind.i64.wrap (IntKind.u8.wrap ((((x.data.getD j 0).toNat:Nat):Int)-48)))=VU x j a:=by
     rw[key _ o_ o_,wrap64 (n:=10*a) o_ o_,wrap64 (n:=(((x.data.getD j 0).toNat:Nat):Int)-48) o_ o_,wrap64 o_ o_];rfl
    rw[e];rfl)
 (fun q ⟨x,g,n,i⟩ a hc hI R K=>by
  refine(r47 R K q x g a x.size).trans ?_;rw[EU x.size];rfl)
def Amw:Be C47:=Aj enter mixed AX (Aw Aqa AX)
def WF(q:Bool)(x:Y_):Bool:=decide (1<=x.size∧x.size<=10)&& !(decide (x.size>1)&&Ru x==48)&& !(q&&Ru x==48)&& !(J7 x).1
def WN(q:Bool)(x:Y_):Int:=bif q then IntKind.i64.wrap (0-(J7 x).2.2)else(J7 x).2.2
def nuB(s:Y_):Bool:=WF (Vt s) (Jy s)
def nuN(s:Y_):Int:=bif nuB s then WN (Vt s) (Jy s)else 0
def Fnum:FD
 |[.v (.string s)]=>some (true,[.v (i64 (nuN s)),.v (.bool (nuB s))])
 |_=>none
def YD{x:Y_}:gd0 x=decide (0<x.size):=by
 unfold gd0;rw[A4 (show(0:Int)<=0 by omega),Bool.true_and];by_cases h:0<x.size
 ·rw[A4 h,A4 o_]
 ·rw[AB h,AB o_]
def VY(q:Bool)(x:Y_):nuT q x (nuH q x)=some [.v (i64 (bif WF q x then WN q x else 0)),.v (.bool (WF q x))]:=by
 unfold WF WN;unfold nuT nuH;rw[YD];by_cases h1:x.size<1
 ·rw[A4 (show(x.size:Int)<1 by omega),AB (show¬(1<=x.size∧x.size<=10) by omega)];rfl
 ·rw[AB (show¬(x.size:Int)<1 by omega),A4 (show 0<x.size by omega)];by_cases h2:x.size>10
  ·rw[A4 (show(x.size:Int)>10 by omega),AB (show¬(1<=x.size∧x.size<=10) by omega)];rfl
  ·rw[AB (show¬(x.size:Int)>10 by omega),A4 (show 1<=x.size∧x.size<=10 by omega),c47_iff.2 ⟨o_,rfl,rfl⟩];by_cases h3:x.size>1
   ·rw[A4 (show(x.size:Int)>1 by omega),A4 h3];cases Ru x==48<;>cases q<;>cases(J7 x).1<;>rfl
   ·rw[AB (show¬(x.size:Int)>1 by omega),AB h3];cases Ru x==48<;>cases q<;>cases(J7 x).1<;>rfl
def Aas(x:Y_)(H:OD):Anz x H=nuT false x H:=rfl
def den_num:Den Tryz.prog 118 Fnum:=Af Amw fun ds rs h=>by
 unfold Fnum at h;split at h
 ·rename_i s;simp only[A5,A6,true_and]at h;subst h;refine(u47 s).trans ?_;unfold nuN nuB;by_cases h1:(s.size:Int)>1
  ·rw[A4 h1,Aa,YD,A4 (show 0<s.size by omega),Aa];cases hq:Ru s==45
   ·have e1:Vt s=false:=by unfold Vt;rw[hq,Bool.and_false]
    have e2:Jy s=s:=by unfold Jy;rw[e1];rfl
    rw[Ac,VY,e2,e1]
   ·have e1:Vt s=true:=by unfold Vt;rw[hq,A4 h1];rfl
    have e2:Jy s=s.extract 1 s.size:=by unfold Jy;rw[e1];rfl
    rw[Aa,A4 (show(0:Int)<=(s.size:Int) by omega),A4 (show(s.size:Int)<=(s.size:Int) by omega),A4 (show(1:Int)<=(((s.size:Int).toNat:Nat):Int) by omega),e2,e1];exact VY true _
  ·have e1:Vt s=false:=by unfold Vt;rw[AB h1];rfl
   have e2:Jy s=s:=by unfold Jy;rw[e1];rfl
   rw[AB h1,Ac,Aas,VY,e2,e1]
 ·cases h
def Ao5(r:Row)(x:Y_):(psC r x).n=r.n+1:=rfl
def Aku(r:Row)(x:Y_){i:Nat}(h:i<r.n):(psC r x).S i 0=r.S i 0:=congrFun (LK (w_ r 0 r.n) (w_ ((Row.zeros 1).setS 0 0 x) 0 1) (i:=i) h).1.2 0
def Afz(r:Row)(x:Y_):(psC r x).S r.n 0=x:=by
 refine(congrFun (LU (w_ r 0 r.n) (w_ ((Row.zeros 1).setS 0 0 x) 0 1) (i:=r.n) (Nat.lt_irrefl _)).1.2 0).trans ?_;rw[show r.n-(w_ r 0 r.n).n=0 from Nat.sub_self _];rfl
def Ve(r:Row)(x:Y_):strs (psC r x) (psC r x).n=strs r r.n++[x]:=by
 unfold strs;rw[Ao5,List.range_succ,List.map_append]
 congr 1
 ·refine List.map_congr_left fun e he=>?_;exact Aku r x (List.mem_range.1 he)
 ·show [(psC r x).S r.n 0]=[x];rw[Afz]
def Ahz{s:Y_}{c:Int}{i:Nat}:cuB s c i=(decide (i=s.size)||(((s.data.getD i 0).toNat:Nat):Int)==c):=by
 unfold cuB
 congr 1
 by_cases h:i=s.size
 ·rw[A4 h];simp;omega
 ·rw[AB h];simp;omega
def ok32:Ah yK l32.C:=l32.ok (fun(s,c,n,f,i,o) j a=>a.1.n<=j∧a.2<=j) k_
 (fun its x h hc=>by
  replace h:d32 its=some x:=h;unfold d32 at h;split at h
  ·cases h;obtain⟨h1,h2,h3,h4,h5⟩:=c32_iff.1 hc;subst h2 h4 h5;rfl
  ·cases h)
 (fun⟨s,c,n,f,i,o⟩ hc=>by have:=(c32_iff.1 hc).1;show s.size+1<18446744073709551616;omega)
 (fun⟨s,c,n,f,i,o⟩ hc=>by
  have:=(c32_iff.1 hc).2.2.1;exact⟨by show o.n<=0;omega,AC _⟩)
 (fun⟨s,c,n,f,i,o⟩ j a hc hj hI=>by
  obtain⟨h1,h2⟩:=hI;show(Sm s c j a).1.n<=j+1∧(Sm s c j a).2<=j+1;unfold Sm;cases cuB s c j
  ·exact⟨by show a.1.n<=j+1;omega,by show a.2<=j+1;omega⟩
  ·exact⟨by show a.1.n+1<=j+1;omega,AC _⟩)
 (fun q ⟨s,c,n,f,i,o⟩ j a hc hj hI R K=>by
  obtain⟨h0,_⟩:=c32_iff.1 hc;obtain⟨h1,h2⟩:=hI;replace hj:j<s.size+1:=hj;refine(r32 R K q s c a.1.n a.2 j a.1).trans ?_;rw[A4 (show(j:Int)<=(s.size:Int) by omega),Eg o_,A4 (show(0:Int)<=(j:Int) by omega),A9,A4 (show(0:Int)<=(a.2:Int) by omega),A4 (show(a.2:Int)<=((j:Nat):Int) by omega),A9,A4 (show a.1.n+(w_ ((Row.zeros 1).setS 0 0 (s.extract a.2 j)) 0 1).n<=10000000000 from(by show a.1.n+1<=10000000000;omega))];show _=R (bst p32 (l32.S (s,c,n,f,i,o) (j+1) (Sm s c j a)));unfold Sm cuB;cases he:((j:Int)==(s.size:Int))
  ·have he:j<s.size:=by simp at he;omega
   rw[A4 (show(j:Int)<(s.size:Int) by omega)];cases((((s.data.getD j 0).toNat:Nat):Int)==c)<;>rfl
  ·rfl)
 (fun q ⟨s,c,n,f,i,o⟩ a hc hI R K=>by
  refine(r32 R K q s c a.1.n a.2 ((s.size+1:Nat):Int) a.1).trans ?_;rw[AB (show¬((s.size+1:Nat):Int)<=(s.size:Int) by omega)];rfl)
def XG:Be yK:=Aj enter mixed AX (Aw ok32 AX)
def cutR(s:Y_)(c:Int):Row:=Ae (BK (Sm s c) (s.size+1) 0 (.nil,0)).1
def Afn:FD
 |[.v (.string s),.v (.int .u8 c)]=>some (s.size<=1000000,[.slice [.str] (cutR s c)])
 |_=>none
def den_cutR:Den Tryz.prog 29 Afn:=Af XG fun ds rs h=>by
 unfold Afn at h;split at h
 ·rename_i s c;simp only[A5,A6,A3]at h;obtain⟨h0,rfl⟩:=h;refine(u32 s c).trans ?_;rw[show c32 s 0 0 0 Row.nil=true from c32_iff.2 ⟨h0,rfl,rfl,rfl,rfl⟩];rfl
 ·cases h
def by_ext(s:Y_)(a b:Nat):Ad (s.extract a b)=((Ad s).take b).drop a:=by
 unfold Ad;rw[ByteArray.data_extract,Array.toList_extract,List.extract,List.drop_take]
def cut_pieces(s:Y_)(k:UInt8):(strs (cutR s (k.toNat:Int)) (cutR s (k.toNat:Int)).n).map Ad=pieces k (Ad s):=by
 have hlen:=AZ s;have h:=Uw (Inv:=fun j (a:Row×Nat)=>if j<=s.size then a.2<=j∧(strs a.1 a.1.n).map Ad++pieces k ((Ad s).drop a.2)=pieces k (Ad s)∧∀i,a.2<=i->i<j->(Ad s).getD i 0≠k else(strs a.1 a.1.n).map Ad=pieces k (Ad s)) (nx:=Sm s (k.toNat:Int)) (len:=s.size+1) (fun j a hj h=>by
  have hj:j<=s.size:=o_;rw[AM hj]at h;obtain⟨h1,h2,h3⟩:=h;have hx:∀c∈((Ad s).take j).drop a.2,c≠k:=fun c hc=>by
   obtain⟨i,hi,rfl⟩:=List.getElem_of_mem hc;rw[List.getElem_drop,List.getElem_take];rw[List.length_drop,List.length_take]at hi;have:=h3 (a.2+i) o_ o_;rw[List.getD_eq_getElem?_getD,AK o_]at this;exact this
  have hd:(Ad s).drop a.2=((Ad s).take j).drop a.2++(Ad s).drop j:=by
   rw[<-List.drop_append_of_le_length (by rw[List.length_take];omega),List.take_append_drop]
  unfold Sm;rw[Ahz];by_cases he:j=s.size
  ·rw[A4 he,Bool.true_or,cond_true,AL o_,Ve,List.map_append,List.map_cons,List.map_nil,by_ext];have e0:(Ad s).drop j=[]:=List.drop_eq_nil_of_le o_;rw[hd,e0,List.append_nil,pieces_none k _ hx]at h2;exact h2
  ·rw[AB he,Bool.false_or,AM o_];cases hc:(((s.data.getD j 0).toNat:Nat):Int)==(k.toNat:Int)
   ·refine⟨by show a.2<=j+1;omega,h2,fun i hi hlt=>?_⟩;by_cases hij:i=j
    ·subst hij;rw[<-getD_by];intro hk;rw[hk]at hc;simp at hc
    ·exact h3 i hi o_
   ·have hk:(Ad s).getD j 0=k:=by
     rw[<-getD_by];have:(s.data.getD j 0).toNat=k.toNat:=by
      have:=beq_iff_eq.1 hc;omega
     exact UInt8.toNat_inj.1 this
    refine⟨AC _,?_,fun i hi hlt=>by have hi:j+1<=i:=hi;omega⟩;show(strs (psC a.1 (s.extract a.2 j)) (psC a.1 (s.extract a.2 j)).n).map Ad++pieces k ((Ad s).drop (j+1))=_;rw[Ve,List.map_append,List.map_cons,List.map_nil,by_ext,List.append_assoc];have e:(Ad s).drop j=k::(Ad s).drop (j+1):=by
     rw[List.drop_eq_getElem_cons o_];rw[List.getD_eq_getElem?_getD,AK o_]at hk
     congr 1
    rw[hd,e,pieces_app k _ _ hx]at h2;exact h2) (m:=s.size+1) (j:=0) (a:=(Row.nil,0)) o_ (by
   rw[AM (Nat.zero_le _)];exact⟨AC _,rfl,fun i hi hlt=>o_⟩)
 rw[AL o_]at h;exact h
end Go.Proofs.YtnljjjghpgdmoaaGreatDoor.Sc
namespace Go.Proofs.YtnljjjghpgdmoaaGreatDoor
open Go.Ev
def oT2(a b:Bool)(t:Bool->OD):OD:=br a (t true) (t b)
def oT4(a b c d:Bool)(t:Bool->OD):OD:=br a (t true) (br b (t true) (br c (t true) (t d)))
def oT5(a b c d e:Bool)(t:Bool->OD):OD:=br a (t true) (br b (t true) (br c (t true) (br d (t true) (t e))))
def oB(b:Bool):OD:=some [.v (.bool b)]
def oS(k cl:Int)(c g r s:Bool):OD:=br (k==1) (br g (oB true) (br r (oB true) (br s (oB true) (oB (cl !=0))))) (br (k==2) (br c (oB true) (br r (oB true) (oB s))) (br (k==3) (br c (oB true) (br g (oB true) (oB s))) (br (k==4) (br c (oB true) (br g (oB true) (oB r))) (oB true))))
def Aqc(k:Int)(ca pi:Row)(pc:Int)(wo gv aa fv:Row)(rr:Int)(lr lp:Row)(ld:Int)(ba pa:Row)(cl:Int):BH C0 6 41 [TR k ca pi pc wo gv aa fv rr lr lp ld ba pa cl]=oT4 ((ca.n:Int)>0) ((pi.n:Int)>0) ((wo.n:Int)>0) (pc !=0) fun c=>oT2 ((gv.n:Int)>0) ((aa.n:Int)>0) fun g=>oT5 ((fv.n:Int)>0) (rr !=0) ((lr.n:Int)>0) ((lp.n:Int)>0) (ld !=0) fun r=>oT2 ((ba.n:Int)>0) ((pa.n:Int)>0) fun s=>oS k cl c g r s:=k_
def bW(a b:Bool)(t:Bool->OD):oT2 a b t=t (a||b):=by cases a<;>rfl
def Ah9(a b c d:Bool)(t:Bool->OD):oT4 a b c d t=t (a||(b||(c||d))):=by cases a<;>cases b<;>cases c<;>rfl
def Aid(a b c d e:Bool)(t:Bool->OD):oT5 a b c d e t=t (a||(b||(c||(d||e)))):=by cases a<;>cases b<;>cases c<;>cases d<;>rfl
def Pg(x:Dc):Bool:=Ff x||TF x.k x
def Apx:FD
 |[d]=>match Fe d with
  |some x=>some (true,[.v (.bool (Pg x))])
  |none=>none
 |_=>none
def Aol(x:Dc):oS x.k x.cl (fC x) (fG x) (fR x) (fS x)=oB (Pg x):=by
 unfold Pg Ff;rw[SY];by_cases h1:x.k=1
 ·rw[h1];unfold oS;cases fC x<;>cases fG x<;>cases fR x<;>cases fS x<;>cases(x.cl !=0)<;>rfl
 ·by_cases h2:x.k=2
  ·rw[h2];unfold oS;cases fC x<;>cases fG x<;>cases fR x<;>cases fS x<;>rfl
  ·by_cases h3:x.k=3
   ·rw[h3];unfold oS;cases fC x<;>cases fG x<;>cases fR x<;>cases fS x<;>rfl
   ·by_cases h4:x.k=4
    ·rw[h4];unfold oS;cases fC x<;>cases fG x<;>cases fR x<;>cases fS x<;>rfl
    ·have e:(decide (x.k<1)||(decide (x.k>4)||(x.k==1&&x.cl !=0)))=true:=by
      by_cases h5:x.k<1
      ·rw[A4 h5];rfl
      ·rw[A4 (show x.k>4 by omega),Bool.true_or,Bool.or_true]
     rw[e,Bool.true_or];unfold oS;rw[show(x.k==1)=false by simpa using h1,show(x.k==2)=false by simpa using h2,show(x.k==3)=false by simpa using h3,show(x.k==4)=false by simpa using h4];rfl
def Acz:Den Tryz.prog 41 Apx:=Af JF fun ds rs h=>by
 unfold Apx at h;split at h
 ·split at h
  ·rename_i x hx;simp only[A5,A6,true_and]at h;subst h;rw[CZ hx];refine(Aqc x.k x.ca x.pi x.pc x.wo x.gv x.aa x.fv x.rr x.lr x.lp x.ld x.ba x.pa x.cl).trans ?_;rw[Ah9,bW,Aid,bW];exact Aol x
  ·cases h
 ·cases h
end Go.Proofs.YtnljjjghpgdmoaaGreatDoor
namespace Go.Proofs.YtnljjjghpgdmoaaGreatDoor.Ld
open Go.Ev
set_option maxRecDepth 100000
def Fis:FD
 |[.v (.int .i64 n),.v (.int .i64 p)]=>some (true,[.v (.bool (Lg.isB n p))])
 |_=>none
noncomputable def Apj:Cx:=AP Tryz.prog fns [] []
def Aax:Be Apj:=Aj enter mixed AX AX
def uis(n p:Int):BH Apj 6 100 [.v (i64 n),.v (i64 p)]=br (p>=0) (some [.v (.bool (p<n))]) (some [.v (.bool false)]):=k_
def Ai6:Den Tryz.prog 100 Fis:=Af Aax fun ds rs h=>by
 unfold Fis at h;split at h
 ·rename_i n p;cases h;refine(uis n p).trans ?_;unfold Lg.isB;cases decide (p>=0)<;>rfl
 ·cases h
def Ahl{A:Type}(n:Int)(r:Row)(j:Nat)(x y:Option A):br (Lg.bad n r j) x y=br (!Lg.isB n (r.I (0+j) 0)) x (br (!Lg.isB n (r.I (0+j) 1)) x (br (r.I (0+j) 0==r.I (0+j) 1) x (br (decide (r.I (0+j) 2<1)) x (br (decide (r.I (0+j) 2>1000000000)) x y)))):=by
 rw[AE];unfold Lg.bad;cases Lg.isB n (r.I j 0)<;>cases Lg.isB n (r.I j 1)<;>cases(r.I j 0==r.I j 1)<;>cases decide (r.I j 2<1)<;>cases decide (r.I j 2>1000000000)<;>rfl
def WR:Dl:={τ:=[.v (.int .i64),.v (.sl 0)]++pu 3++[.v (.int .i64)]++pu 59,saved:=[[]],mem:=[.row Ht false]}
structure A_lr37 where
 k:Int
 n:Nat
 j:Int
 r:Row
def V7(its:List It):Option A_lr37:=match its with|[.i k,.n n,.i j,.r r]=>some ⟨k,n,j,r⟩|_=>none
def VJ(x:A_lr37):Bool:=x.j=0∧x.n<=1000000
def c_lr37_iff{x:A_lr37}:=@Bl _ VJ _ _ rfl x
def lr37:ScanL A_lr37:=⟨49,6,[0,1,5],[4],WR,V7,fun x j=>[.i x.k,.n x.n,.i (j:Int),.r x.r],fun x=>x.n,VJ,fun x j=>Lg.bad x.k x.r j,fun x j K=>K .ret ⟨us 4++[i64 8]++us 60,[[]],[]⟩,fun x K=>K (.exit 0) ⟨us 65,[[]],[]⟩⟩
noncomputable def Ac6:Cx:=AP Tryz.prog fns [(100,Fis)] [lr37.C]
def pG(R:St->OD)(K:X->St->OD)(q:Nat)(k:Int)(n:Nat)(j:Int)(r:Row):Ak Ac6 49 6 q (Go.Ev.bst WR [.i k,.n n,.i j,.r r]) (BF [0,1,5] (some [4]) R K)=br (j<(n:Int)) (br (0<=j&&j<(n:Int)) (br (!Lg.isB k (r.I (0+j.toNat) 0)) (lr37.Kb ⟨k,n,j,r⟩ 0 K) (br (0<=j&&j<(n:Int)) (br (!Lg.isB k (r.I (0+j.toNat) 1)) (lr37.Kb ⟨k,n,j,r⟩ 0 K) (br (0<=j&&j<(n:Int)) (br (0<=j&&j<(n:Int)) (br (r.I (0+j.toNat) 0==r.I (0+j.toNat) 1) (lr37.Kb ⟨k,n,j,r⟩ 0 K) (br (0<=j&&j<(n:Int)) (br (r.I (0+j.toNat) 2<1) (lr37.Kb ⟨k,n,j,r⟩ 0 K) (br (0<=j&&j<(n:Int)) (br (r.I (0+j.toNat) 2>1000000000) (lr37.Kb ⟨k,n,j,r⟩ 0 K) (R (Go.Ev.bst WR [.i k,.n n,.i (IntKind.i64.wrap (j+1)),.r r]))) none)) none)) none) none)) none)) none) (lr37.Ke ⟨k,n,j,r⟩ K):=k_
def Aqo(n:Int)(r:Row):BH Ac6 6 49 [.v (i64 n),.slice Ht r]=br (n>=1) (br (!decide (n<=10)) (some [.v (i64 2)]) (br ((r.n:Int)>200) (some [.v (i64 4)]) (br (VJ (⟨n,r.n,0,r⟩:A_lr37)) (br (Ag (fun j=>Lg.bad n r j) r.n 0) (some [.v (i64 8)]) (some [.v (i64 0)])) none))) (some [.v (i64 2)]):=k_
def Abz:Ah Ac6 lr37.C:=lr37.ok k_
 (fun its x h hc=>by
  replace h:V7 its=some x:=h;unfold V7 at h;split at h
  ·cases h;have h:=c_lr37_iff.1 hc;dsimp only at h;obtain⟨rfl,_⟩:=h;rfl
  ·cases h)
 (fun x hc=>by have:=c_lr37_iff.1 hc;show x.n<2^64;omega)
 (fun q ⟨k,n,j0,r⟩ j hc hi R K=>by
  obtain⟨h1,h2⟩:=c_lr37_iff.1 hc;dsimp only at*
  replace hi:j<n:=hi;refine(pG R K q k n ((j:Int)) r).trans ?_;rw[A9,gd j n hi,DX j n hi,Eg o_];simp only[Aa];exact(Ahl k r j _ _).symm)
 (fun q ⟨k,n,j0,r⟩ hc R K=>by
  obtain⟨h1,h2⟩:=c_lr37_iff.1 hc;dsimp only at*
  refine(pG R K q k n ((n:Int)) r).trans ?_;rw[EU n];rfl)
def Abe:Be Ac6:=Aj enter mixed (Aw Ai6 AX) (Aw Abz AX)
def den_r37:Den Tryz.prog 49 Lg.F7:=Af Abe fun ds rs h=>by
 unfold Lg.F7 at h;split at h
 ·rename_i n r;simp only[A5,A6,true_and]at h;subst h;refine(Aqo n r).trans ?_;unfold Lg.chk Lg.partiesB;cases decide (n>=1)
  ·rfl
  ·cases decide (n<=10)
   ·rfl
   ·by_cases c:(r.n:Int)>200
    ·rw[A4 c];rfl
    ·rw[AB c,c_lr37_iff.2 ⟨rfl,by show r.n<=_;omega⟩,Aa,Aa];show br (Ag (Lg.bad n r) r.n 0) _ _=_;cases Ag (Lg.bad n r) r.n 0<;>rfl
 ·cases h
end Go.Proofs.YtnljjjghpgdmoaaGreatDoor.Ld
namespace Go.Proofs.YtnljjjghpgdmoaaGreatDoor
open Go.Ev
set_option maxRecDepth 100000
def gin{i:Int}{n:Nat}(h1:0<=i)(h2:i<(n:Int)):(decide (0<=i)&&decide (i<(n:Int)))=true:=by simp only[A2,A3];exact⟨h1,h2⟩
def tZ:Dl:={τ:=pu 1++[.v (.c (.pointer (some ⟨0,0,some 0⟩)))]++pu 1++[.v (.int .i64),.v (.int .i64)]++pu 68,saved:=[[]],mem:=[.box [.v (.sl 1)],.row Cc false]}
structure A_lr5 where
 m:Int
 j:Int
 n:Nat
 r:Row
def gJ(its:List It):Option A_lr5:=match its with|[.i m,.i j,.n n,.r r]=>some ⟨m,j,n,r⟩|_=>none
def qL(x:A_lr5):Bool:=x.j=0∧x.n<=1000000∧x.m=(x.n:Int)
def c_lr5_iff{x:A_lr5}:=@Bl _ qL _ _ rfl x
def lr5:ScanL A_lr5:=⟨44,5,[1,3,4],[1,2,3],tZ,gJ,fun x j=>[.i x.m,.i (j:Int),.n x.n,.r x.r],fun x=>x.n,qL,fun x j=>decide (((x.r.R j 0).n:Int)>10),fun x j K=>K .ret ⟨us 1++[.pointer (some ⟨0,0,some 0⟩),i64 4,i64 x.m]++us 69,[[]],[some (.box [S_ 1 0 x.n]),Au Cc x.r]⟩,fun x K=>K (.exit 0) ⟨us 1++[.pointer (some ⟨0,0,some 0⟩)]++us 1++[i64 x.m]++us 69,[[]],[some (.box [S_ 1 0 x.n]),Au Cc x.r]⟩⟩
def XF:Dl:={τ:=pu 1++[.v (.c (.pointer (some ⟨0,0,some 0⟩)))]++pu 1++[.v (.int .i64)]++pu 1++[.v (.int .i64),.v (.int .i64)]++pu 66,saved:=[[]],mem:=[.box [.v (.sl 1)],.row Cc false]}
structure A_lr15 where
 m:Int
 i:Int
 j:Int
 n:Nat
 r:Row
def WA(its:List It):Option A_lr15:=match its with|[.i m,.i i,.i j,.n n,.r r]=>some ⟨m,i,j,n,r⟩|_=>none
def RJ(x:A_lr15):Bool:=x.j=0∧0<=x.i∧x.i<(x.n:Int)∧x.m=(x.n:Int)∧(x.r.R x.i.toNat 0).n<=1000000
def c_lr15_iff{x:A_lr15}:=@Bl _ RJ _ _ rfl x
def lr15:ScanL A_lr15:=⟨44,15,[1,3,5,6],[1,2,3,5],XF,WA,fun x j=>[.i x.m,.i x.i,.i (j:Int),.n x.n,.r x.r],fun x=>(x.r.R x.i.toNat 0).n,RJ,fun x j=>N9 ((x.r.R x.i.toNat 0).I j 0),fun x j K=>K .ret ⟨us 1++[.pointer (some ⟨0,0,some 0⟩),i64 8,i64 x.m]++us 1++[i64 x.i]++us 67,[[]],[some (.box [S_ 1 0 x.n]),Au Cc x.r]⟩,fun x K=>K (.exit 4) ⟨us 1++[.pointer (some ⟨0,0,some 0⟩)]++us 1++[i64 x.m]++us 1++[i64 x.i]++us 67,[[]],[some (.box [S_ 1 0 x.n]),Au Cc x.r]⟩⟩
def XC:Dl:={τ:=pu 1++[.v (.c (.pointer (some ⟨0,0,some 0⟩)))]++pu 1++[.v (.int .i64)]++pu 1++[.v (.int .i64)]++pu 67,saved:=[[]],mem:=[.box [.v (.sl 1)],.row Cc false]}
structure A_lr10 where
 m:Int
 j:Int
 n:Nat
 r:Row
def Xq(its:List It):Option A_lr10:=match its with|[.i m,.i j,.n n,.r r]=>some ⟨m,j,n,r⟩|_=>none
def X3(x:A_lr10):Bool:=x.j=0∧x.n<=1000000∧x.m=(x.n:Int)∧∀i,i<x.n->(x.r.R i 0).n<=1000000
def c_lr10_iff{x:A_lr10}:=@Bl _ X3 _ _ rfl x
def lr10:ScanL A_lr10:=⟨44,10,[1,3,5],[2,3],XC,Xq,fun x j=>[.i x.m,.i (j:Int),.n x.n,.r x.r],fun x=>x.n,X3,fun x j=>FV x.r j,fun x j K=>K .ret ⟨us 2++[i64 8,i64 x.m]++us 69,[[]],[]⟩,fun x K=>K (.exit 2) ⟨us 3++[i64 x.m]++us 69,[[]],[]⟩⟩
noncomputable def Vk:Cx:=AP Tryz.prog fns [] [lr5.C,lr15.C,lr10.C]
def Aev(R:St->OD)(K:X->St->OD)(q:Nat)(m j:Int)(n:Nat)(r:Row):Ak Vk 44 5 q (bst tZ [.i m,.i j,.n n,.r r]) (BF [1,3,4] (some [1,2,3]) R K)=br (j<m) (br (0<=j&&j<(n:Int)) (br ((↑(r.R (0+j.toNat) 0).n:Int)>10) (lr5.Kb ⟨m,j,n,r⟩ 0 K) (R (bst tZ [.i m,.i (IntKind.i64.wrap (j+1)),.n n,.r r]))) none) (lr5.Ke ⟨m,j,n,r⟩ K):=k_
def uH(R:St->OD)(K:X->St->OD)(q:Nat)(m i j:Int)(n:Nat)(r:Row):Ak Vk 44 15 q (bst XF [.i m,.i i,.i j,.n n,.r r]) (BF [1,3,5,6] (some [1,2,3,5]) R K)=br (0<=i&&i<(n:Int)) (br (j<(↑(r.R (0+i.toNat) 0).n:Int)) (br (0<=i&&i<(n:Int)) (br (0<=j&&j<(↑(r.R (0+i.toNat) 0).n:Int)) (br ((r.R (0+i.toNat) 0).I (0+j.toNat) 0<0) (lr15.Kb ⟨m,i,j,n,r⟩ 0 K) (br (0<=i&&i<(n:Int)) (br (0<=j&&j<(↑(r.R (0+i.toNat) 0).n:Int)) (br ((r.R (0+i.toNat) 0).I (0+j.toNat) 0>1000) (lr15.Kb ⟨m,i,j,n,r⟩ 0 K) (R (bst XF [.i m,.i i,.i (IntKind.i64.wrap (j+1)),.n n,.r r]))) none) none)) none) none) (lr15.Ke ⟨m,i,j,n,r⟩ K)) (none):=k_
def qZ(R:St->OD)(K:X->St->OD)(q:Nat)(m j:Int)(n:Nat)(r:Row):Ak Vk 44 10 q (bst XC [.i m,.i j,.n n,.r r]) (BF [1,3,5] (some [2,3]) R K)=br (j<m) (br (0<=j&&j<(n:Int)) (br ((0:Int)<=0&&0<(n:Int)) (br ((↑(r.R (0+j.toNat) 0).n:Int) !=(↑(r.R 0 0).n:Int)) (lr10.Kb ⟨m,j,n,r⟩ 0 K) (br (RJ (⟨m,j,0,n,r⟩:A_lr15)) (br (Ag (fun j_1=>N9 ((r.R j.toNat 0).I j_1 0)) (r.R j.toNat 0).n 0) (lr10.Kb ⟨m,j,n,r⟩ 0 K) (R (bst XC [.i m,.i (IntKind.i64.wrap (j+1)),.n n,.r r]))) none)) none) none) (lr10.Ke ⟨m,j,n,r⟩ K):=k_
def Arm(r:Row):BH Vk 6 44 [.agg [.slice Oc r]]=br ((r.n:Int)>6) (some [.v (i64 4)]) (br (qL (⟨(r.n:Int),0,r.n,r⟩:A_lr5)) (br (Ag (fun j=>decide ((↑(r.R j 0).n:Int)>10)) r.n 0) (some [.v (i64 4)]) (br (X3 (⟨(r.n:Int),0,r.n,r⟩:A_lr10)) (br (Ag (fun j=>FV r j) r.n 0) (some [.v (i64 8)]) (br ((((r.n:Int)))<1) (some [.v (i64 8)]) (some [.v (i64 0)]))) none)) none):=k_
def Amy:Ah Vk lr5.C:=lr5.ok k_
 (fun its x h hc=>by
  replace h:gJ its=some x:=h;unfold gJ at h;split at h
  ·cases h;have h:=c_lr5_iff.1 hc;dsimp only at h;obtain⟨rfl,_⟩:=h;rfl
  ·cases h)
 (fun x hc=>by have:=c_lr5_iff.1 hc;show x.n<2^64;omega)
 (fun q ⟨m,j0,n,r⟩ j hc hi R K=>by
  obtain⟨h1,h2,h3⟩:=c_lr5_iff.1 hc;dsimp only at*
  replace hi:j<n:=hi;refine(Aev R K q m ((j:Int)) n r).trans ?_;rw[A9,AE j,h3,gd j n hi,DX j n hi,Eg o_];rfl)
 (fun q ⟨m,j0,n,r⟩ hc R K=>by
  obtain⟨h1,h2,h3⟩:=c_lr5_iff.1 hc;dsimp only at*
  refine(Aev R K q m ((n:Int)) n r).trans ?_;rw[h3,AB (show¬(n:Int)<(n:Int) by omega)];rfl)
def zJ:Ah Vk lr15.C:=lr15.ok k_
 (fun its x h hc=>by
  replace h:WA its=some x:=h;unfold WA at h;split at h
  ·cases h;have h:=c_lr15_iff.1 hc;dsimp only at h;obtain⟨rfl,_⟩:=h;rfl
  ·cases h)
 (fun x hc=>by have:=c_lr15_iff.1 hc;show(x.r.R x.i.toNat 0).n<18446744073709551616;omega)
 (fun q ⟨m,i,j0,n,r⟩ j hc hi R K=>by
  obtain⟨h1,h2,h3,h4,h5⟩:=c_lr15_iff.1 hc;dsimp only at*
  replace hi:j<(r.R i.toNat 0).n:=hi;refine(uH R K q m i ((j:Int)) n r).trans ?_;simp only[AE,A9];rw[h4,gin h2 h3,gd j _ hi,DX j _ hi,Eg o_,Aa,Aa,Aa];exact(Fz _ _ _ _).symm)
 (fun q ⟨m,i,j0,n,r⟩ hc R K=>by
  obtain⟨h1,h2,h3,h4,h5⟩:=c_lr15_iff.1 hc;dsimp only at*
  refine(uH R K q m i ((((r.R i.toNat 0).n:Nat):Int)) n r).trans ?_;simp only[AE];rw[h4,gin h2 h3,EU];rfl)
def Ac0:Ah Vk lr10.C:=lr10.ok k_
 (fun its x h hc=>by
  replace h:Xq its=some x:=h;unfold Xq at h;split at h
  ·cases h;have h:=c_lr10_iff.1 hc;dsimp only at h;obtain⟨rfl,_⟩:=h;rfl
  ·cases h)
 (fun x hc=>by have:=c_lr10_iff.1 hc;show x.n<2^64;omega)
 (fun q ⟨m,j0,n,r⟩ j hc hi R K=>by
  obtain⟨h1,h2,h3,h4⟩:=c_lr10_iff.1 hc;dsimp only at*
  replace hi:j<n:=hi;refine(qZ R K q m ((j:Int)) n r).trans ?_;have k1:=h4 j hi;simp only[AE,A9];rw[h3,gin (show(0:Int)<=0 by omega) (show(0:Int)<(n:Int) by omega),gd j n hi,DX j n hi,Eg o_,show RJ ⟨(n:Int),(j:Int),0,n,r⟩=true from c_lr15_iff.2 ⟨rfl,Int.natCast_nonneg j,Int.ofNat_lt.2 hi,rfl,by show(r.R ((j:Int)).toNat 0).n<=_;rw[A9];exact k1⟩,Aa,Aa,Aa,Aa];refine Eq.trans ?_ (Fz _ _ _ _).symm;show br _ _ (br (Ag (fun k=>N9 ((r.R ((j:Int)).toNat 0).I k 0)) (r.R ((j:Int)).toNat 0).n 0) _ _)=_;rw[A9];rfl)
 (fun q ⟨m,j0,n,r⟩ hc R K=>by
  obtain⟨h1,h2,h3,h4⟩:=c_lr10_iff.1 hc;dsimp only at*
  refine(qZ R K q m ((n:Int)) n r).trans ?_;rw[h3,AB (show¬(n:Int)<(n:Int) by omega)];rfl)
def Aa1:Be Vk:=Aj enter mixed AX (Aw Amy<|Aw zJ<|Aw Ac0 AX)
def YZ:Den Tryz.prog 44 Fchk:=Af Aa1 fun ds rs h=>by
 unfold Fchk at h;split at h
 ·rename_i r;simp only[A5,A6]at h;obtain⟨h0,rfl⟩:=h;have h0:=AD h0;refine(Arm r).trans ?_;unfold chkE;by_cases c1:(r.n:Int)>6
  ·rw[A4 c1];rfl
  ·rw[AB c1,Ac,c_lr5_iff.2 ⟨rfl,h0,rfl⟩,Aa,Bool.false_or];show br (Hy r) _ _=_;cases c2:Hy r
   ·rw[Ac,c_lr10_iff.2 ⟨rfl,h0,rfl,fun i hi=>by
     have hi:i<r.n:=hi;have:=AO (anyF_false.1 c2 i (Nat.zero_le _) o_);show(r.R i 0).n<=_;omega⟩,Aa]
    show br (Ag (FV r) r.n 0) _ _=_;cases Ag (FV r) r.n 0
    ·rw[Ac,Bool.or_false];cases hn:(r.n:Int)==0
     ·rw[show decide ((r.n:Int)<1)=false by simp at hn⊢;omega];rfl
     ·rw[show decide ((r.n:Int)<1)=true by simp at hn⊢;omega];rfl
    ·rw[Bool.or_true];rfl
   ·rfl
 ·cases h
def sV:Dl:={τ:=pu 1++[.v (.sl 0),.v (.c (.pointer (some ⟨1,0,some 0⟩)))]++pu 2++[.v (.int .i64)]++pu 34,saved:=[[]],mem:=[.row Ar false,.box [.v (.sl 2)],.row Cc false]}
structure A_lr6 where
 n:Nat
 j:Int
 p:Row
 rn:Nat
 r:Row
def fK(its:List It):Option A_lr6:=match its with|[.n n,.i j,.r p,.n rn,.r r]=>some ⟨n,j,p,rn,r⟩|_=>none
def oJ(x:A_lr6):Bool:=x.j=0∧x.n<=1000000
def c_lr6_iff{x:A_lr6}:=@Bl _ oJ _ _ rfl x
def lr6:ScanL A_lr6:=⟨45,6,[1,2,5],[4],sV,fK,fun x j=>[.n x.n,.i (j:Int),.r x.p,.n x.rn,.r x.r],fun x=>x.n,oJ,fun x j=>JL (-1) (x.rn:Int) (x.p.I j 0),fun x j K=>K .ret ⟨us 4++[i64 8]++us 35,[[]],[]⟩,fun x K=>K (.exit 0) ⟨us 40,[[]],[]⟩⟩
noncomputable def YT:Cx:=AP Tryz.prog fns [(44,Fchk)] [lr6.C]
def Ae4(R:St->OD)(K:X->St->OD)(q n:Nat)(j:Int)(p:Row)(rn:Nat)(r:Row):Ak YT 45 6 q (bst sV [.n n,.i j,.r p,.n rn,.r r]) (BF [1,2,5] (some [4]) R K)=br (j<(n:Int)) (br (0<=j&&j<(n:Int)) (br (p.I (0+j.toNat) 0< -1) (lr6.Kb ⟨n,j,p,rn,r⟩ 0 K) (br (0<=j&&j<(n:Int)) (br (p.I (0+j.toNat) 0>=(rn:Int)) (lr6.Kb ⟨n,j,p,rn,r⟩ 0 K) (R (bst sV [.n n,.i (IntKind.i64.wrap (j+1)),.r p,.n rn,.r r]))) none)) none) (lr6.Ke ⟨n,j,p,rn,r⟩ K):=k_
def Anh(r p:Row):BH YT 6 45 [.agg [.slice Oc r],.slice Hf p]=br ((w_ r 0 r.n).n<=1000000) (br (chkE (w_ r 0 r.n) !=0) (br ((w_ r 0 r.n).n<=1000000) (some [.v (i64 (chkE (w_ r 0 r.n)))]) none) (br ((0:Int)<=0&&0<(r.n:Int)) (br ((p.n:Int) !=(↑(r.R 0 0).n:Int)) (some [.v (i64 8)]) (br (oJ (⟨p.n,0,p,r.n,r⟩:A_lr6)) (br (Ag (fun j=>JL (-1) (r.n:Int) (p.I j 0)) p.n 0) (some [.v (i64 8)]) (some [.v (i64 0)])) none)) none)) (none):=k_
def Amv:Ah YT lr6.C:=lr6.ok k_
 (fun its x h hc=>by
  replace h:fK its=some x:=h;unfold fK at h;split at h
  ·cases h;have h:=c_lr6_iff.1 hc;dsimp only at h;obtain⟨rfl,_⟩:=h;rfl
  ·cases h)
 (fun x hc=>by have:=c_lr6_iff.1 hc;show x.n<2^64;omega)
 (fun q ⟨n,j0,p,rn,r⟩ j hc hi R K=>by
  obtain⟨h1,h2⟩:=c_lr6_iff.1 hc;dsimp only at*
  replace hi:j<n:=hi;refine(Ae4 R K q n ((j:Int)) p rn r).trans ?_;rw[A9,AE j,gd j n hi,DX j n hi,Eg o_,Aa,Aa];exact(Fz _ _ _ _).symm)
 (fun q ⟨n,j0,p,rn,r⟩ hc R K=>by
  obtain⟨h1,h2⟩:=c_lr6_iff.1 hc;dsimp only at*
  refine(Ae4 R K q n ((n:Int)) p rn r).trans ?_;rw[EU n];rfl)
def kY:Be YT:=Aj enter mixed (Aw YZ AX) (Aw Amv AX)
def yH:Den Tryz.prog 45 nJ:=Af kY fun ds rs h=>by
 unfold nJ at h;split at h
 ·rename_i r a;simp only[A5,A6]at h;obtain⟨h0,rfl⟩:=h;have h0:=AD h0;refine(Anh r a).trans ?_;unfold Gz;rw[A4 (show(w_ r 0 r.n).n<=1000000 by rw[wn_];exact h0.1),Aa];show br (chkE r !=0) (some [D.v (i64 (chkE r))]) _=_;cases c1:chkE r !=0
  ·have c1:chkE r=0:=by simpa using c1
   have c2:=(OA c1).1;rw[Ac,show(decide ((0:Int)<=0)&&decide ((0:Int)<(r.n:Int)))=true by simp only[A2,A3];omega,Aa];cases c3:(a.n:Int) !=((r.R 0 0).n:Int)
   ·rw[Ac,c_lr6_iff.2 ⟨rfl,h0.2⟩,Aa];unfold Tv;show br (Ag (fun j=>JL (-1) (r.n:Int) (a.I j 0)) a.n 0) _ _=_;cases Ag (fun j=>JL (-1) (r.n:Int) (a.I j 0)) a.n 0<;>rfl
   ·rfl
  ·rfl
 ·cases h
def IJ(z:Nat->Int)(x:Int):Nat->Nat
 |0=>0
 |n+1=>IJ z x n+(if z n=x then 1 else 0)
def Ro(z:Nat->Int)(x:Int)(n:Nat):IJ z x (n+1)=IJ z x n+(if z n=x then 1 else 0):=rfl
def MF(z:Nat->Int)(x:Int):∀n,(upto z n).count x=IJ z x n
 |0=>rfl
 |n+1=>by
  rw[upto_succ,List.count_append,MF z x n,List.count_singleton,Ro];by_cases h:z n=x
  ·rw[AM h,AM (by simpa using h)]
  ·rw[AL h,AL (by simpa using h)]
def sD(j:Nat):∀n,IJ (fun i=>(i:Int)) j n=if j<n then 1 else 0
 |0=>rfl
 |n+1=>by
  unfold IJ;rw[sD j n];by_cases h1:j<n
  ·rw[AM h1,AL o_,AM o_]
  ·rw[AL h1];by_cases h2:j=n
   ·rw[AM o_,AM o_]
   ·rw[AL o_,AL o_]
def YH{z:Nat->Int}:∀{n i k:Nat},i<k->k<n->z i=z k->2<=IJ z (z k) n
 |0,i,k,_,h,_=>absurd h (Nat.not_lt_zero _)
 |n+1,i,k,h1,h2,h3=>by
  unfold IJ;by_cases hk:k=n
  ·subst hk;rw[AM rfl];have:1<=IJ z (z k) k:=by
    have one:∀{m i:Nat},i<m->1<=IJ z (z i) m:=fun{m}=>by
     induction m with
     |zero=>intro i h;omega
     |succ m ih=>
      intro i h;unfold IJ;by_cases hm:i=m
      ·subst hm;rw[AM rfl];omega
      ·have:=ih (i:=i) o_;omega
    have:=one (m:=k) h1;rw[h3]at this;exact this
   omega
  ·have:=YH (n:=n) h1 o_ h3;omega
def Pj(z:Nat->Int)(m:Int):Nat->Nat
 |0=>0
 |n+1=>Pj z m n+(if 0<=z n∧z n<m then 1 else 0)
def QC(z:Nat->Int):∀n,Pj z 0 n=0
 |0=>rfl
 |n+1=>by unfold Pj;rw[QC z n,AL o_]
def QQ(z:Nat->Int)(m:Nat):∀n,Pj z ((m+1:Nat):Int) n=Pj z m n+IJ z m n
 |0=>rfl
 |n+1=>by
  unfold Pj IJ;rw[QQ z m n];by_cases h1:z n=(m:Int)
  ·rw[AM (show 0<=z n∧z n<((m+1:Nat):Int) by omega),AL (show¬(0<=z n∧z n<(m:Int)) by omega),AM h1];omega
  ·by_cases h2:0<=z n∧z n<(m:Int)
   ·rw[AM (show 0<=z n∧z n<((m+1:Nat):Int) by omega),AM h2,AL h1];omega
   ·rw[AL (show¬(0<=z n∧z n<((m+1:Nat):Int)) by omega),AL h2,AL h1];rfl
def Vj{z:Nat->Int}{n:Nat}:∀m:Nat,(∀j:Nat,j<m->IJ z j n=1)->Pj z m n=m
 |0,_=>QC z n
 |m+1,h=>by rw[QQ,Vj m (fun j hj=>h j o_),h m o_]
def Y9(z:Nat->Int)(m:Int):∀n,Pj z m n<=n
 |0=>AC _
 |n+1=>by
  unfold Pj;have:=Y9 z m n;split<;>omega
def Rh{z:Nat->Int}{m:Int}:∀{n:Nat},Pj z m n=n->∀i,i<n->0<=z i∧z i<m
 |0,_,i,h=>absurd h (Nat.not_lt_zero _)
 |n+1,h,i,hi=>by
  unfold Pj at h;have:=Y9 z m n;by_cases hz:0<=z n∧z n<m
  ·rw[AM hz]at h;by_cases he:i=n
   ·subst he;exact hz
   ·exact Rh (n:=n) o_ i o_
  ·rw[AL hz]at h;omega
def ZL(l:List Int):(F9 l).length=l.length:=(EJ l).length_eq
def ZY(z:Nat->Int)(n:Nat):(∀j,j<n->(F9 (upto z n)).getD j 0=(j:Int))↔∀j:Nat,j<n->IJ z j n=1:=by
 have hlen:(F9 (upto z n)).length=n:=by rw[ZL,upto_length]
 constructor
 ·intro h j hj;have e:F9 (upto z n)=upto (fun i=>(i:Int)) n:=by
   refine List.ext_getElem (by rw[hlen,upto_length]) fun i h1 h2=>?_;have:=h i o_;rw[List.getD_eq_getElem?_getD,AK h1]at this;have this:(F9 (upto z n))[i]=(i:Int):=this;rw[this];simp[upto]
  rw[<-MF,<-(EJ (upto z n)).count_eq,e,MF,sD,AM hj]
 ·intro h;have hin:=Rh (Vj n h);have hne:(upto z n).Pairwise (· ≠·):=by
   show((List.range n).map z).Pairwise (· ≠·);rw[List.pairwise_map,List.pairwise_iff_getElem];intro i k hi hk hik he;simp only[List.getElem_range]at he;have hk':k<n:=by simpa using hk
   obtain⟨w1,w2⟩:=hin k hk';have h2:=YH hik hk' he;have h3:=h (z k).toNat o_;rw[show(((z k).toNat:Nat):Int)=z k by omega]at h3;omega
  have hnd:(F9 (upto z n)).Pairwise (· ≠·):=((EJ (upto z n)).pairwise_iff (fun h=>h.symm)).2 hne;have hlt:(F9 (upto z n)).Pairwise (· < ·):=((Ip (upto z n)).and hnd).imp (fun h=>by have:=h.1;have:=h.2;omega);have hmem:∀x,x∈F9 (upto z n)->0<=x∧x<(n:Int):=fun x hx=>by
   have:=(EJ (upto z n)).mem_iff.1 hx;obtain⟨i,hi,rfl⟩:=List.mem_map.1 (show x∈(List.range n).map z from this);exact hin i (List.mem_range.1 hi)
  generalize F9 (upto z n)=L at hlen hlt hmem;have step:=List.pairwise_iff_getElem.1 hlt;have far:∀d i (h1:i<L.length) (h2:i+d<L.length),L[i]+(d:Int)<=L[i+d]:=fun d=>by
   induction d with
   |zero=>intro i h1 h2;simp
   |succ d ih=>
    intro i h1 h2;have a:=ih i h1 o_;have b:=step (i+d) (i+(d+1)) o_ h2 o_;omega
  intro j hj;have hj':j<L.length:=o_;rw[List.getD_eq_getElem?_getD,AK hj'];show L[j]=(j:Int);have a:=far j 0 o_ o_;have b:=(hmem L[0] (List.getElem_mem _)).1;have c:=far (n-1-j) j hj' o_;have d:=(hmem L[j+(n-1-j)] (List.getElem_mem _)).2;simp only[AE]at a;omega
def Zt(p qr:Row)(j:Nat):Bool:=decide (p.I (j+1) 0<=p.I j 0)||(decide (qr.I j 0<0)||decide (qr.I j 0>12))
def YJ:Dl:={τ:=pu 1++[.v (.c (.pointer (some ⟨0,0,some 0⟩)))]++pu 1++[.v (.bool),.v (.int .i64)]++pu 94,saved:=[[]],mem:=[.box [.v (.int .i64),.v (.sl 1),.v (.sl 2)],.row Ar false,.row Ar false]}
structure A_lrk where
 sm:Bool
 j:Int
 l:Int
 pn:Nat
 qn:Nat
 p:Row
 qr:Row
def wF(its:List It):Option A_lrk:=match its with|[.b sm,.i j,.i l,.n pn,.n qn,.r p,.r qr]=>some ⟨sm,j,l,pn,qn,p,qr⟩|_=>none
def vJ(x:A_lrk):Bool:=x.j=0∧x.qn<=1000000∧x.pn=x.qn+1
def c_lrk_iff{x:A_lrk}:=@Bl _ vJ _ _ rfl x
def lrk:RunL A_lrk (Bool):=⟨132,7,[1,3,4],[2,3],YJ,wF,fun x j a=>[.b a,.i (j:Int),.i x.l,.n x.pn,.n x.qn,.r x.p,.r x.qr],fun x=>x.qn,vJ,fun x=>x.sm,fun x j a=>Zt x.p x.qr j,fun x j a=>a||decide (x.qr.I j 0>0),fun x j a K=>K .ret ⟨us 2++[i64 8,.bool ((a))]++us 95,[[]],[]⟩,fun x a K=>K (.exit 0) ⟨us 3++[.bool ((a))]++us 95,[[]],[]⟩⟩
noncomputable def Crk:Cx:=AP Tryz.prog fns [] [lrk.C]
def Ae9(R:St->OD)(K:X->St->OD)(q:Nat)(sm:Bool)(j l:Int)(pn qn:Nat)(p qr:Row):Ak Crk 132 7 q (bst YJ [.b sm,.i j,.i l,.n pn,.n qn,.r p,.r qr]) (BF [1,3,4] (some [2,3]) R K)=br (j<(qn:Int)) (br (0<=IntKind.i64.wrap (j+1)&&IntKind.i64.wrap (j+1)<(pn:Int)) (br (0<=j&&j<(pn:Int)) (br (p.I (0+(IntKind.i64.wrap (j+1)).toNat) 0<=p.I (0+j.toNat) 0) (K .ret ⟨us 2++[i64 8,.bool sm]++us 95,[[]],[]⟩) (br (0<=j&&j<(qn:Int)) (br (qr.I (0+j.toNat) 0<0) (K .ret ⟨us 2++[i64 8,.bool sm]++us 95,[[]],[]⟩) (br (0<=j&&j<(qn:Int)) (br (qr.I (0+j.toNat) 0>12) (K .ret ⟨us 2++[i64 8,.bool sm]++us 95,[[]],[]⟩) (br sm (R (bst YJ [.b true,.i (IntKind.i64.wrap (j+1)),.i l,.n pn,.n qn,.r p,.r qr])) (br (0<=j&&j<(qn:Int)) (R (bst YJ [.b (qr.I (0+j.toNat) 0>0),.i (IntKind.i64.wrap (j+1)),.i l,.n pn,.n qn,.r p,.r qr])) none))) none)) none)) none) none) (K (.exit 0) ⟨us 3++[.bool sm]++us 95,[[]],[]⟩):=k_
def urk(l:Int)(p q:Row):BH Crk 6 132 [.agg [.v (i64 l),.slice Hf p,.slice Hf q]]=br (l>1000) (some [.v (i64 4)]) (br ((p.n:Int)>40) (some [.v (i64 4)]) (br (l<1) (some [.v (i64 8)]) (br ((p.n:Int)<2) (some [.v (i64 8)]) (br ((q.n:Int) !=IntKind.i64.wrap ((p.n:Int)-1)) (some [.v (i64 8)]) (br ((0:Int)<=0&&0<(p.n:Int)) (br (p.I 0 0 !=0) (some [.v (i64 8)]) (br (0<=IntKind.i64.wrap ((p.n:Int)-1)&&IntKind.i64.wrap ((p.n:Int)-1)<(p.n:Int)) (br (p.I (0+(IntKind.i64.wrap ((p.n:Int)-1)).toNat) 0 !=l) (some [.v (i64 8)]) (br (vJ (⟨false,0,l,p.n,q.n,p,q⟩:A_lrk)) (br ((Bf (lrk.stop (⟨false,0,l,p.n,q.n,p,q⟩:A_lrk)) (lrk.nx (⟨false,0,l,p.n,q.n,p,q⟩:A_lrk)) (lrk.len (⟨false,0,l,p.n,q.n,p,q⟩:A_lrk)) 0 (lrk.ini (⟨false,0,l,p.n,q.n,p,q⟩:A_lrk))).1) (some [.v (i64 8)]) (br (!(Bf (lrk.stop (⟨false,0,l,p.n,q.n,p,q⟩:A_lrk)) (lrk.nx (⟨false,0,l,p.n,q.n,p,q⟩:A_lrk)) (lrk.len (⟨false,0,l,p.n,q.n,p,q⟩:A_lrk)) 0 (lrk.ini (⟨false,0,l,p.n,q.n,p,q⟩:A_lrk))).snd.2) (some [.v (i64 8)]) (some [.v (i64 0)]))) none)) none)) none))))):=k_
def Aj8:Ah Crk lrk.C:=lrk.ok (fun x j a=>True) k_
 (fun its x h hc=>by
  replace h:wF its=some x:=h;unfold wF at h;split at h
  ·cases h;have h:=c_lrk_iff.1 hc;dsimp only at h;obtain⟨rfl,_⟩:=h;rfl
  ·cases h)
 (fun x hc=>by have:=c_lrk_iff.1 hc;show x.qn<2^64;omega)
 (fun x hc=>by
  trivial)
 (fun x j a hc hi hI hs=>by
  trivial)
 (fun q ⟨sm0,j0,l,pn,qn,p,qr⟩ j a hc hi hI R K=>by
  obtain⟨h1,h2,h3⟩:=c_lrk_iff.1 hc;dsimp only at*
  replace hi:j<qn:=hi;refine(Ae9 R K q ((a)) ((j:Int)) l pn qn p qr).trans ?_;rw[show(IntKind.i64.wrap ((j:Int)+1))=((j+1:Nat):Int)from(wrap64 o_ o_).trans o_,A9,A9,AE,AE,gd j qn hi,DX j qn hi,gd j pn o_,gd (j+1) pn o_];show _=br (decide (p.I (j+1) 0<=p.I j 0)||(decide (qr.I j 0<0)||decide (qr.I j 0>12))) _ _;rw[Fz,Fz];cases a<;>rfl)
 (fun q ⟨sm0,j0,l,pn,qn,p,qr⟩ a hc hI R K=>by
  obtain⟨h1,h2,h3⟩:=c_lrk_iff.1 hc;dsimp only at*
  refine(Ae9 R K q ((a)) ((qn:Int)) l pn qn p qr).trans ?_;rw[EU qn];rfl)
def Ah0:Be Crk:=Aj enter mixed AX (Aw Aj8 AX)
def rkS(p q:Row):Bool×Nat×Bool:=Bf (fun j _=>Zt p q j) (fun j a=>a||decide (q.I j 0>0)) q.n 0 false
def Agv(l:Int)(p q:Row):Int:=bif l>1000 then 4 else bif (p.n:Int)>40 then 4 else bif l<1 then 8 else bif (p.n:Int)<2 then 8 else bif (q.n:Int) !=(p.n:Int)-1 then 8 else bif p.I 0 0 !=0 then 8 else bif p.I (p.n-1) 0 !=l then 8 else bif (rkS p q).1 then 8 else bif !(rkS p q).2.2 then 8 else 0
def Anf:FD
 |[.agg [.v (.int .i64 l),.slice [.int .i64] p,.slice [.int .i64] q]]=>some (p.n<=1000000∧q.n<=1000000,[.v (i64 (Agv l p q))])
 |_=>none
def den_car:Den Tryz.prog 132 Anf:=Af Ah0 fun ds rs h=>by
 unfold Anf at h;split at h
 ·rename_i l p q;simp only[A5,A6,A3]at h;obtain⟨⟨hp,hq⟩,rfl⟩:=h;refine(urk l p q).trans ?_;rw[show IntKind.i64.wrap ((p.n:Int)-1)=(p.n:Int)-1 from wrap64 o_ o_];refine Cb fun h1=>Cb fun h2=>Cb fun h3=>Cb fun h4=>Cb fun h5=>?_;have k4:¬(p.n:Int)<2:=AO h4;have k5:(q.n:Int)=(p.n:Int)-1:=by simpa using h5
  have e1:((p.n:Int)-1).toNat=p.n-1:=o_;refine Fp z_ (Cb fun h6=>Fp z_ ?_);rw[e1,AE];exact Cb fun h7=>Fp (c_lrk_iff.2 ⟨rfl,hq,by show p.n=q.n+1;omega⟩) (Cb fun h8=>Cb fun h9=>rfl)
 ·cases h
def TU(b g:Nat->Bool):∀(m j:Nat)(a:Bool),(Bf (fun j _=>b j) (fun j a=>a||g j) m j a).1=Ag b m j
 |0,j,a=>rfl
 |m+1,j,a=>by
  cases h:b j
  ·rw[Fq h,TU b g m (j+1)];show Ag b m (j+1)=(b j||Ag b m (j+1));rw[h,Bool.false_or]
  ·rw[H8 h];show true=(b j||Ag b m (j+1));rw[h,Bool.true_or]
def Uc(b g:Nat->Bool):∀(m j:Nat)(a:Bool),Ag b m j=false->(Bf (fun j _=>b j) (fun j a=>a||g j) m j a).2.2=(a||Ag g m j)
 |0,j,a,_=>by
  show a=(a||false);rw[Bool.or_false]
 |m+1,j,a,h=>by
  have h':(b j||Ag b m (j+1))=false:=h;rw[AI]at h';rw[Fq h'.1,Uc b g m (j+1) _ h'.2];show((a||g j)||Ag g m (j+1))=(a||(g j||Ag g m (j+1)));rw[Bool.or_assoc]
def U8(f:Nat->Int):∀(m j:Nat)(a:Int),let x:=BK (fun j a=>if f (j+1)<a then f (j+1)else a) m j a
  x<=a∧(∀i,j<=i->i<j+m->x<=f (i+1))∧(x=a∨∃i,j<=i∧i<j+m∧x=f (i+1))
 |0,j,a=>⟨Int.le_refl _,fun i h1 h2=>o_,.inl rfl⟩
 |m+1,j,a=>by
  obtain⟨h1,h2,h3⟩:=U8 f m (j+1) (if f (j+1)<a then f (j+1)else a);show BK _ m (j+1) (if f (j+1)<a then f (j+1)else a)<=a∧(∀i,j<=i->i<j+(m+1)->BK _ m (j+1) (if f (j+1)<a then f (j+1)else a)<=f (i+1))∧(BK _ m (j+1) (if f (j+1)<a then f (j+1)else a)=a∨∃i,j<=i∧i<j+(m+1)∧BK _ m (j+1) (if f (j+1)<a then f (j+1)else a)=f (i+1));generalize BK (fun j a=>if f (j+1)<a then f (j+1)else a) m (j+1) (if f (j+1)<a then f (j+1)else a)=x at*
  have hx:x<=a∧x<=f (j+1):=by split at h1<;>omega
  refine⟨hx.1,fun i g1 g2=>?_,?_⟩
  ·by_cases hij:i=j
   ·rw[hij];exact hx.2
   ·exact h2 i o_ o_
  ·rcases h3 with h3|⟨i,g1,g2,g3⟩
   ·split at h3
    ·exact .inr ⟨j,AC _,o_,h3⟩
    ·exact .inl h3
   ·exact .inr ⟨i,o_,o_,g3⟩
def UR(f:Nat->Int):∀(m j:Nat)(a:Int),let x:=BK (fun j a=>if f (j+1)>a then f (j+1)else a) m j a
  a<=x∧(∀i,j<=i->i<j+m->f (i+1)<=x)∧(x=a∨∃i,j<=i∧i<j+m∧x=f (i+1))
 |0,j,a=>⟨Int.le_refl _,fun i h1 h2=>o_,.inl rfl⟩
 |m+1,j,a=>by
  obtain⟨h1,h2,h3⟩:=UR f m (j+1) (if f (j+1)>a then f (j+1)else a);show a<=BK _ m (j+1) (if f (j+1)>a then f (j+1)else a)∧(∀i,j<=i->i<j+(m+1)->f (i+1)<=BK _ m (j+1) (if f (j+1)>a then f (j+1)else a))∧(BK _ m (j+1) (if f (j+1)>a then f (j+1)else a)=a∨∃i,j<=i∧i<j+(m+1)∧BK _ m (j+1) (if f (j+1)>a then f (j+1)else a)=f (i+1));generalize BK (fun j a=>if f (j+1)>a then f (j+1)else a) m (j+1) (if f (j+1)>a then f (j+1)else a)=x at*
  have hx:a<=x∧f (j+1)<=x:=by split at h1<;>omega
  refine⟨hx.1,fun i g1 g2=>?_,?_⟩
  ·by_cases hij:i=j
   ·rw[hij];exact hx.2
   ·exact h2 i o_ o_
  ·rcases h3 with h3|⟨i,g1,g2,g3⟩
   ·split at h3
    ·exact .inr ⟨j,AC _,o_,h3⟩
    ·exact .inl h3
   ·exact .inr ⟨i,o_,o_,g3⟩
def QH(r:Row)(h:1<=r.n):(∀i,i<r.n->UK r<=r.I i 0)∧∃i,i<r.n∧UK r=r.I i 0:=by
 obtain⟨h1,h2,h3⟩:=U8 (fun i=>r.I i 0) (r.n-1) 0 (r.I 0 0);refine⟨fun i hi=>?_,?_⟩
 ·cases i with
  |zero=>exact h1
  |succ i=>exact h2 i (Nat.zero_le _) o_
 ·rcases h3 with h3|⟨i,g1,g2,g3⟩
  ·exact⟨0,o_,h3⟩
  ·exact⟨i+1,o_,g3⟩
def QK(r:Row)(h:1<=r.n):(∀i,i<r.n->r.I i 0<=Ns r)∧∃i,i<r.n∧Ns r=r.I i 0:=by
 obtain⟨h1,h2,h3⟩:=UR (fun i=>r.I i 0) (r.n-1) 0 (r.I 0 0);refine⟨fun i hi=>?_,?_⟩
 ·cases i with
  |zero=>exact h1
  |succ i=>exact h2 i (Nat.zero_le _) o_
 ·rcases h3 with h3|⟨i,g1,g2,g3⟩
  ·exact⟨0,o_,h3⟩
  ·exact⟨i+1,o_,g3⟩
def Ol{c:Bool}{a x y:Int}(h:c=false->x=y):(bif c then a else x)=bif c then a else y:=by
 cases c
 ·exact h rfl
 ·rfl
def jD(l:Int)(p q:Row):Ky l p q=Agv l p q:=by
 unfold Ky Agv;refine Ol fun _=>Ol fun _=>Ol fun _=>Ol fun h4=>Ol fun h5=>Ol fun _=>Ol fun _=>?_;have k4:¬(p.n:Int)<2:=AO h4;have k5:(q.n:Int)=(p.n:Int)-1:=by simpa using h5
 obtain⟨a1,a2,a3,a4⟩:=QH q o_;obtain⟨b1,b2,b3,b4⟩:=QK q o_;have e1:(rkS p q).1=Ag (Zt p q) q.n 0:=TU _ _ _ _ _;rw[e1];cases hb:Ag (Zt p q) q.n 0
 ·have e2:(rkS p q).2.2=(false||Ag (fun j=>decide (q.I j 0>0)) q.n 0):=Uc _ _ _ _ _ hb;rw[e2,Bool.false_or,cond_false];have hg:∀j,j<q.n->p.I j 0<p.I (j+1) 0∧0<=q.I j 0∧q.I j 0<=12:=fun j hj=>by
   have:=anyF_false.1 hb j (Nat.zero_le _) o_;unfold Zt at this;simp only[AI,decide_eq_false_iff_not]at this;omega
  have o:Aah p=false:=anyF_false.2 fun j _ hj=>AB (by have:=(hg j o_).1;omega);have m1:=hg a2 a3;have m2:=hg b2 b3;rw[o,cond_false,AB (show¬UK q<0 by omega),cond_false,AB (show¬Ns q>12 by omega),cond_false];cases hp:Ag (fun j=>decide (q.I j 0>0)) q.n 0
  ·have:=anyF_false.1 hp b2 (Nat.zero_le _) o_;have:=AO this;rw[show(Ns q==0)=true by simp;omega];rfl
  ·obtain⟨j,_,g2,g3⟩:=anyF_iff.1 hp;have g3:=AD g3;have:=b1 j o_;rw[show(Ns q==0)=false by simp;omega];rfl
 ·rw[cond_true];obtain⟨j,_,g2,g3⟩:=anyF_iff.1 hb;cases o:Aah p
  ·rw[cond_false];have ho:=anyF_false.1 o j (Nat.zero_le _) o_;have ho:=AO ho;unfold Zt at g3;simp only[Bool.or_eq_true,A3]at g3;have c1:=a1 j o_;have c2:=b1 j o_;cases hm:decide (UK q<0)
   ·have:=AO hm;rw[cond_false,A4 (show Ns q>12 by omega)];rfl
   ·rfl
  ·rfl
def wR:Den Tryz.prog 132 aS:=den_car.less fun ds rs h=>by
 unfold aS at h;split at h
 ·rw[jD]at h;exact h
 ·cases h
def iO:Dl:={τ:=pu 1++[.v (.c (.pointer (some ⟨0,0,some 0⟩)))]++pu 1++[.v (.int .i64)]++pu 54,saved:=[[]],mem:=[.box [.v (.sl 1),.v (.sl 2)],.row DV false,.row [.int .i64,.int .u8,.int .i64,.int .i64,.int .i64,.int .i64,.int .i64,.int .i64] false]}
structure A_ld6 where
 j:Int
 rn:Nat
 sn:Nat
 r:Row
 s:Row
def uO(its:List It):Option A_ld6:=match its with|[.i j,.n rn,.n sn,.r r,.r s]=>some ⟨j,rn,sn,r,s⟩|_=>none
def wZ(x:A_ld6):Bool:=x.j=0∧x.rn<=1000000∧CkP x.r x.rn
def c_ld6_iff{x:A_ld6}:=@Bl _ wZ _ _ rfl x
def ld6:ScanL A_ld6:=⟨93,6,[1,3],[1,2],iO,uO,fun x j=>[.i (j:Int),.n x.rn,.n x.sn,.r x.r,.r x.s],fun x=>x.rn,wZ,fun x j=>Ju x.r j !=0,fun x j K=>K .ret ⟨us 1++[.pointer (some ⟨0,0,some 0⟩),i64 (Ju x.r j)]++us 55,[[]],[some (.box [S_ 1 0 x.rn,S_ 2 0 x.sn]),Au DV x.r,some (.row [.int .i64,.int .u8,.int .i64,.int .i64,.int .i64,.int .i64,.int .i64,.int .i64] false x.s)]⟩,fun x K=>K (.exit 0) ⟨us 1++[.pointer (some ⟨0,0,some 0⟩)]++us 56,[[]],[some (.box [S_ 1 0 x.rn,S_ 2 0 x.sn]),Au DV x.r,some (.row [.int .i64,.int .u8,.int .i64,.int .i64,.int .i64,.int .i64,.int .i64,.int .i64] false x.s)]⟩⟩
def X6:Dl:={τ:=pu 1++[.v (.c (.pointer (some ⟨0,0,some 0⟩)))]++pu 2++[.v (.int .i64)]++pu 53,saved:=[[]],mem:=[.box [.v (.sl 1),.v (.sl 2)],.row DV false,.row [.int .i64,.int .u8,.int .i64,.int .i64,.int .i64,.int .i64,.int .i64,.int .i64] false]}
structure A_ld11 where
 j:Int
 rn:Nat
 sn:Nat
 r:Row
 s:Row
def VI(its:List It):Option A_ld11:=match its with|[.i j,.n rn,.n sn,.r r,.r s]=>some ⟨j,rn,sn,r,s⟩|_=>none
def Ws(x:A_ld11):Bool:=x.j=0∧x.rn<=1000000
def c_ld11_iff{x:A_ld11}:=@Bl _ Ws _ _ rfl x
def ld11:ScanL A_ld11:=⟨93,11,[1,4],[2],X6,VI,fun x j=>[.i (j:Int),.n x.rn,.n x.sn,.r x.r,.r x.s],fun x=>x.rn,Ws,fun x j=>x.r.I j 0 !=x.r.I 0 0,fun x j K=>K .ret ⟨us 2++[i64 8]++us 55,[[]],[]⟩,fun x K=>K (.exit 2) ⟨us 58,[[]],[]⟩⟩
noncomputable def Cd4:Cx:=AP Tryz.prog fns [(132,aS)] [ld6.C,ld11.C]
def Aed(R:St->OD)(K:X->St->OD)(q:Nat)(j:Int)(rn sn:Nat)(r s:Row):Ak Cd4 93 6 q (bst iO [.i j,.n rn,.n sn,.r r,.r s]) (BF [1,3] (some [1,2]) R K)=br (j<(rn:Int)) (br (0<=j&&j<(rn:Int)) (br (decide ((w_ (r.R (0+j.toNat) 1) 0 (r.R (0+j.toNat) 1).n).n<=1000000∧(w_ (r.R (0+j.toNat) 2) 0 (r.R (0+j.toNat) 2).n).n<=1000000)) (br (Ky (r.I (0+j.toNat) 0) (w_ (r.R (0+j.toNat) 1) 0 (r.R (0+j.toNat) 1).n) (w_ (r.R (0+j.toNat) 2) 0 (r.R (0+j.toNat) 2).n) !=0) (br (0<=j&&j<(rn:Int)) (br (decide ((w_ (r.R (0+j.toNat) 1) 0 (r.R (0+j.toNat) 1).n).n<=1000000∧(w_ (r.R (0+j.toNat) 2) 0 (r.R (0+j.toNat) 2).n).n<=1000000)) (K .ret ⟨us 1++[.pointer (some ⟨0,0,some 0⟩),i64 (Ky (r.I (0+j.toNat) 0) (w_ (r.R (0+j.toNat) 1) 0 (r.R (0+j.toNat) 1).n) (w_ (r.R (0+j.toNat) 2) 0 (r.R (0+j.toNat) 2).n))]++us 55,[[]],[some (.box [S_ 1 0 rn,S_ 2 0 sn]),Au DV r,some (.row [.int .i64,.int .u8,.int .i64,.int .i64,.int .i64,.int .i64,.int .i64,.int .i64] false s)]⟩) none) none) (R (bst iO [.i (IntKind.i64.wrap (j+1)),.n rn,.n sn,.r r,.r s]))) none) none) (ld6.Ke ⟨j,rn,sn,r,s⟩ K):=k_
def fU(R:St->OD)(K:X->St->OD)(q:Nat)(j:Int)(rn sn:Nat)(r s:Row):Ak Cd4 93 11 q (bst X6 [.i j,.n rn,.n sn,.r r,.r s]) (BF [1,4] (some [2]) R K)=br (j<(rn:Int)) (br (0<=j&&j<(rn:Int)) (br ((0:Int)<=0&&0<(rn:Int)) (br (r.I (0+j.toNat) 0 !=r.I 0 0) (ld11.Kb ⟨j,rn,sn,r,s⟩ 0 K) (R (bst X6 [.i (IntKind.i64.wrap (j+1)),.n rn,.n sn,.r r,.r s]))) none) none) (ld11.Ke ⟨j,rn,sn,r,s⟩ K):=k_
def ud4(r s:Row):BH Cd4 6 93 [.agg [.slice DV r,.slice [.int .i64,.int .u8,.int .i64,.int .i64,.int .i64,.int .i64,.int .i64,.int .i64] s]]=br ((r.n:Int)>6) (some [.v (i64 4)]) (br ((s.n:Int)>2000) (some [.v (i64 4)]) (br ((r.n:Int)==0) (some [.v (i64 8)]) (br (wZ (⟨0,r.n,s.n,r,s⟩:A_ld6)) (br (Ag (fun j=>Ju r j !=0) r.n 0) (some [.v (i64 (Ju r (FZ (fun j=>Ju r j !=0) r.n 0)))]) (br (Ws (⟨0,r.n,s.n,r,s⟩:A_ld11)) (br (Ag (fun j=>r.I j 0 !=r.I 0 0) r.n 0) (some [.v (i64 8)]) (some [.v (i64 0)])) none)) none))):=k_
def Ajx:Ah Cd4 ld6.C:=ld6.ok k_
 (fun its x h hc=>by
  replace h:uO its=some x:=h;unfold uO at h;split at h
  ·cases h;have h:=c_ld6_iff.1 hc;dsimp only at h;obtain⟨rfl,_⟩:=h;rfl
  ·cases h)
 (fun x hc=>by have:=c_ld6_iff.1 hc;show x.rn<2^64;omega)
 (fun q ⟨j0,rn,sn,r,s⟩ j hc hi R K=>by
  obtain⟨h1,h2,h3⟩:=c_ld6_iff.1 hc;dsimp only at*
  replace hi:j<rn:=hi;refine(Aed R K q ((j:Int)) rn sn r s).trans ?_;have k1:=h3 j hi;rw[A9,AE j,gd j rn hi,DX j rn hi,Eg o_,A4 (show(w_ (r.R j 1) 0 (r.R j 1).n).n<=1000000∧(w_ (r.R j 2) 0 (r.R j 2).n).n<=1000000 by rw[wn_,wn_];exact k1)];rfl)
 (fun q ⟨j0,rn,sn,r,s⟩ hc R K=>by
  obtain⟨h1,h2,h3⟩:=c_ld6_iff.1 hc;dsimp only at*
  refine(Aed R K q ((rn:Int)) rn sn r s).trans ?_;rw[EU rn];rfl)
def Abk:Ah Cd4 ld11.C:=ld11.ok k_
 (fun its x h hc=>by
  replace h:VI its=some x:=h;unfold VI at h;split at h
  ·cases h;have h:=c_ld11_iff.1 hc;dsimp only at h;obtain⟨rfl,_⟩:=h;rfl
  ·cases h)
 (fun x hc=>by have:=c_ld11_iff.1 hc;show x.rn<2^64;omega)
 (fun q ⟨j0,rn,sn,r,s⟩ j hc hi R K=>by
  obtain⟨h1,h2⟩:=c_ld11_iff.1 hc;dsimp only at*
  replace hi:j<rn:=hi;refine(fU R K q ((j:Int)) rn sn r s).trans ?_;rw[A9,AE j,gd j rn hi,DX j rn hi,Eg o_,show(decide ((0:Int)<=0)&&decide ((0:Int)<(rn:Int)))=true by simp;omega];rfl)
 (fun q ⟨j0,rn,sn,r,s⟩ hc R K=>by
  obtain⟨h1,h2⟩:=c_ld11_iff.1 hc;dsimp only at*
  refine(fU R K q ((rn:Int)) rn sn r s).trans ?_;rw[EU rn];rfl)
def Ag6:Be Cd4:=Aj enter mixed (Aw wR AX) (Aw Ajx<|Aw Abk AX)
def Aby:Den Tryz.prog 93 Z5:=Af Ag6 fun ds rs h=>by
 unfold Z5 at h;split at h
 ·rename_i r s;simp only[A5,A6,A3]at h;obtain⟨⟨h0,h1,h2⟩,rfl⟩:=h;refine(ud4 r s).trans ?_;rw[AB (show¬(s.n:Int)>2000 by omega),Ac];refine Cb fun _=>Cb fun _=>Fp (c_ld6_iff.2 ⟨rfl,h0,h1⟩) (Cb fun _=>Fp (c_ld11_iff.2 ⟨rfl,h0⟩) (Cb fun _=>rfl))
 ·cases h
noncomputable def Cvr:Cx:=AP Tryz.prog fns [(169,Rt.Fboth),(134,Rt.Flessr)] []
def Ai5:Be Cvr:=Aj enter mixed (Aw Rt.den_both<|Aw Rt.den_lessr AX) AX
def uvr(a b c d:Int):BH Cvr 6 133 [.agg [.v (i64 a),.v (i64 b),.v (i64 c),.v (i64 d)]]=br (Rt.iR a&&Rt.iR b&&Rt.iR c&&Rt.iR d) (br (Rt.chk2 a b c d==0) (br (Rt.iR a&&Rt.iR c&&(inB b 1 1000000000000000000&&inB d 1 1000000000000000000)) (some [.v (.bool (a*d<c*b))]) none) (some [.v (.bool false)])) (none):=k_
def SQ(x y:Int):decide (Rt.cmpI x y<0)=decide (x<y):=by
 rcases Int.lt_trichotomy x y with h|h|h
 ·rw[Rt.cmpI_lt h,A4 h];rfl
 ·rw[Rt.cmpI_eq h,AB (show¬x<y by omega)];rfl
 ·rw[Rt.cmpI_gt h,AB (show¬x<y by omega)];rfl
def yD:Den Tryz.prog 133 ZQ:=Af Ai5 fun ds rs h=>by
 unfold ZQ at h;split at h
 ·rename_i a b c d;simp only[A5,A6]at h;obtain⟨h0,rfl⟩:=h;refine(uvr a b c d).trans ?_;rw[h0,Aa];unfold NR;cases hc:Rt.chk2 a b c d==0
  ·rfl
  ·have hc':Rt.chk2 a b c d=0:=by simpa using hc
   obtain⟨⟨b1,b2⟩,⟨d1,d2⟩,_⟩:=Rt.ad_bounds hc';simp only[A2]at h0;rw[Aa,h0.1.1.1,h0.1.2,inB_iff.2 ⟨b1,b2⟩,inB_iff.2 ⟨d1,d2⟩];unfold Rt.cpC;rw[AM hc',SQ];rfl
 ·cases h
def F8(n d m e:Int):Bool:=if(n<0)≠(m<0)then decide (n<0)else if n<0 then decide (Rt.absI m*IntKind.u64.wrap d<Rt.absI n*IntKind.u64.wrap e)else decide (Rt.absI n*IntKind.u64.wrap e<Rt.absI m*IntKind.u64.wrap d)
def Ab1:FD
 |[.agg [.v (.int .i64 n),.v (.int .i64 d)],.agg [.v (.int .i64 m),.v (.int .i64 e)]]=>some (Rt.iR n&&Rt.iR d&&Rt.iR m&&Rt.iR e,[.v (.bool (F8 n d m e))])
 |_=>none
def uwr(n:Int):Rt.uR (IntKind.u64.wrap n)=true:=by
 rw[Rt.wrapU,Rt.uR_iff];omega
def qJ(x:Int):Rt.wd (x/18446744073709551616) (x%18446744073709551616)=x:=by unfold Rt.wd;omega
def QR:Den Tryz.prog 134 Ab1:=Af Rt.C12_ok fun ds rs h=>by
 unfold Ab1 at h;split at h
 ·rename_i n d m e;simp only[A5,A6,A2]at h;obtain⟨⟨⟨⟨h1,h3⟩,h2⟩,h4⟩,rfl⟩:=h;refine(Rt.tlessr n d m e).trans ?_;obtain⟨n1,n2⟩:=Rt.iR_iff.mp h1;obtain⟨m1,m2⟩:=Rt.iR_iff.mp h2;have⟨a1,a0⟩:=Rt.absI_or n;have⟨b1,b0⟩:=Rt.absI_or m;obtain⟨d1,d2⟩:=Rt.uR_iff.1 (uwr d);obtain⟨e1,e2⟩:=Rt.uR_iff.1 (uwr e);unfold F8;have ud:=uwr d;have ue:=uwr e;generalize IntKind.u64.wrap d=D at*
  generalize IntKind.u64.wrap e=E at*
  have x0:0<=Rt.absI n*E:=Int.mul_nonneg a1 o_;have x1:Rt.absI n*E<=9223372036854775808*18446744073709551615:=Int.mul_le_mul o_ o_ o_ d_;have y0:0<=Rt.absI m*D:=Int.mul_nonneg b1 o_;have y1:Rt.absI m*D<=9223372036854775808*18446744073709551615:=Int.mul_le_mul o_ o_ o_ d_;have ua:Rt.uR (Rt.absI n)=true:=Rt.uR_iff.2 o_;have ub:Rt.uR (Rt.absI m)=true:=Rt.uR_iff.2 o_;rw[h1,h2,ua,ub,ue,ud];generalize Rt.absI n*E=x at*
  generalize Rt.absI m*D=y at*
  have q1:Rt.uR (x/18446744073709551616)=true:=Rt.uR_iff.2 o_;have q2:Rt.uR (x%18446744073709551616)=true:=Rt.uR_iff.2 o_;have q3:Rt.uR (y/18446744073709551616)=true:=Rt.uR_iff.2 o_;have q4:Rt.uR (y%18446744073709551616)=true:=Rt.uR_iff.2 o_;rw[q1,q2,q3,q4,qJ,qJ];by_cases c1:n<0<;>by_cases c2:m<0
  ·rw[A4 c1,A4 c2,AL (by simp[c1,c2]),AM c1];rfl
  ·rw[A4 c1,AB c2,AM (by simp[c1,c2])];rfl
  ·rw[AB c1,A4 c2,AM (by simp[c1,c2])];rfl
  ·rw[AB c1,AB c2,AL (by simp[c1,c2]),AL c1];rfl
 ·cases h
def Ll{n d m e:Int}(hd:1<=d∧d<=1000000000000000000)(he:1<=e∧e<=1000000000000000000):F8 n d m e=decide (n*e<m*d):=by
 unfold F8;rw[Rt.wrapU_id (n:=d) o_ o_,Rt.wrapU_id (n:=e) o_ o_];have hx:=Rt.abs_mul n e;have hy:=Rt.abs_mul m d;have sx:n<0->n*e<0:=fun h=>Int.mul_neg_of_neg_of_pos h o_;have sx':0<=n->0<=n*e:=fun h=>Int.mul_nonneg h o_;have sy:m<0->m*d<0:=fun h=>Int.mul_neg_of_neg_of_pos h o_;have sy':0<=m->0<=m*d:=fun h=>Int.mul_nonneg h o_;rw[hx,hy];by_cases c1:n<0<;>by_cases c2:m<0
 ·rw[AL (by simp[c1,c2]),AM c1,AM c1,AM c2,decide_eq_decide];omega
 ·have:=sx c1;have:=sy' o_;rw[AM (by simp[c1,c2]),decide_eq_decide];omega
 ·have:=sx' o_;have:=sy c2;rw[AM (by simp[c1,c2]),decide_eq_decide];omega
 ·rw[AL (by simp[c1,c2]),AL c1,AL c1,AL c2]
def Ji{a b c d:Int}(h:NR a b c d=true):Rt.chkE a b=0∧Rt.chkE c d=0:=by
 unfold NR at h;simp only[A2,beq_iff_eq]at h;have h:=h.1;unfold Rt.chk2 at h;by_cases hh:Rt.chkE a b=0
 ·rw[AM hh]at h;exact⟨hh,h⟩
 ·rw[AL hh]at h;exact absurd h hh
def UF{n d m e:Int}(h1:Rt.chkE n d=0)(h2:Rt.chkE m e=0):decide (Rt.cpC n d m e>=0)= !F8 n d m e:=by
 rw[Ll (Rt.chk_good h1).1 (Rt.chk_good h2).1];have hc:Rt.chk2 n d m e=0:=by unfold Rt.chk2;rw[AM h1];exact h2
 unfold Rt.cpC;rw[AM hc];rcases Int.lt_trichotomy (n*e) (m*d)with h|h|h
 ·rw[Rt.cmpI_lt h,A4 h];rfl
 ·rw[Rt.cmpI_eq h,AB (show¬n*e<m*d by omega)];rfl
 ·rw[Rt.cmpI_gt h,AB (show¬n*e<m*d by omega)];rfl
def I5(r:Row)(j:Nat):Bool:= !NR (r.I j 0) (r.I j 1) (r.I j 2) (r.I j 3)||(decide ((j:Int)>0)&& !F8 (r.I (j-1) 2) (r.I (j-1) 3) (r.I j 0) (r.I j 1))
def Abj(r:Row):Int:=bif (r.n:Int)>60 then 4 else bif Ag (I5 r) r.n 0 then 8 else 0
def Ya(r:Row):Abj r=NF r:=by
 unfold Abj NF NL;cases decide ((r.n:Int)>60)
 ·show(bif Ag (I5 r) r.n 0 then(8:Int)else 0)=bif (bif Ag (fun j=> !NR (r.I j 0) (r.I j 1) (r.I j 2) (r.I j 3)) r.n 0 then(8:Int)else 0) !=0 then(bif Ag (fun j=> !NR (r.I j 0) (r.I j 1) (r.I j 2) (r.I j 3)) r.n 0 then(8:Int)else 0)else bif Ag (Xl r) (r.n-1) 0 then 8 else 0;cases hP:Ag (fun j=> !NR (r.I j 0) (r.I j 1) (r.I j 2) (r.I j 3)) r.n 0 with
  |true=>
   obtain⟨i,h1,h2,h3⟩:=anyF_iff.1 hP;rw[show Ag (I5 r) r.n 0=true from anyF_iff.2 ⟨i,h1,h2,by unfold I5;rw[h3];rfl⟩];rfl
  |false=>
   have hv:∀i,i<r.n->NR (r.I i 0) (r.I i 1) (r.I i 2) (r.I i 3)=true:=fun i hi=>by simpa using anyF_false.1 hP i (Nat.zero_le _) o_
   have key:∀i,0<i->i<r.n->I5 r i=Xl r (i-1):=fun i h0 hi=>by
    obtain⟨_,g1⟩:=Ji (hv (i-1) o_);obtain⟨g2,_⟩:=Ji (hv i hi);unfold I5 Xl;rw[hv i hi,show i-1+1=i by omega,UF g1 g2,A4 (show(i:Int)>0 by omega)];rfl
   have e:Ag (I5 r) r.n 0=Ag (Xl r) (r.n-1) 0:=by
    rw[Bool.eq_iff_iff,anyF_iff,anyF_iff];constructor
    ·rintro⟨i,h1,h2,h3⟩;rcases Nat.eq_zero_or_pos i with rfl|h0
     ·unfold I5 at h3;rw[hv 0 o_]at h3;cases h3
     ·exact⟨i-1,Nat.zero_le _,o_,by rw[<-key i h0 o_];exact h3⟩
    ·rintro⟨i,h1,h2,h3⟩;exact⟨i+1,Nat.zero_le _,o_,by rw[key (i+1) o_ o_];exact h3⟩
   rw[e];rfl
 ·rfl
def MG{n d m e k g:Int}(hd:0<d)(he:0<e)(hg:0<g)(h1:n*e<m*d)(h2:m*g<k*e):n*g<k*d:=by
 have a1:n*e*g<m*d*g:=Int.mul_lt_mul_of_pos_right h1 hg;have a2:m*g*d<k*e*d:=Int.mul_lt_mul_of_pos_right h2 hd;have e1:m*d*g=m*g*d:=by rw[Int.mul_assoc,Int.mul_comm d g,<-Int.mul_assoc]
 have e2:n*e*g=n*g*e:=by rw[Int.mul_assoc,Int.mul_comm e g,<-Int.mul_assoc]
 have e3:k*e*d=k*d*e:=by rw[Int.mul_assoc,Int.mul_comm e d,<-Int.mul_assoc]
 refine Int.lt_of_mul_lt_mul_right (a:=e) ?_ o_;rw[<-e2,<-e3];omega
def dF(n a b:Int):Bool:=Rt.chkE a b==0&&(decide (a>=0)&& !F8 n 1 a b)
def Qn(n:Int)(r:Row)(j:Nat):Bool:= !dF n (r.I j 0) (r.I j 1)|| !dF n (r.I j 2) (r.I j 3)
def Zw(n:Int)(r:Row):Bool:= !Ag (Qn n r) r.n 0
def QI{a b c d:Int}(h:NR a b c d=true):a*d<c*b:=by
 have h0:=h;unfold NR at h;simp only[A2,beq_iff_eq,A3]at h;obtain⟨h1,h2⟩:=h;unfold Rt.cpC at h2;rw[AM h1]at h2;rcases Int.lt_trichotomy (a*d) (c*b)with h|h|h
 ·exact h
 ·rw[Rt.cmpI_eq h]at h2;omega
 ·rw[Rt.cmpI_gt h]at h2;omega
def aK{r:Row}(h:NF r=0):(∀i,i<r.n->NR (r.I i 0) (r.I i 1) (r.I i 2) (r.I i 3)=true)∧∀i,i+1<r.n->r.I i 2*r.I (i+1) 1<r.I (i+1) 0*r.I i 3:=by
 rw[<-Ya]at h;unfold Abj at h;cases hn:decide ((r.n:Int)>60)with
 |true=>rw[hn]at h;have h:(4:Int)=0:=h;omega
 |false=>
  rw[hn]at h;have h:(bif Ag (I5 r) r.n 0 then(8:Int)else 0)=0:=h;cases hb:Ag (I5 r) r.n 0 with
  |true=>rw[hb]at h;have h:(8:Int)=0:=h;omega
  |false=>
   have hall:=fun i (hi:i<r.n)=>anyF_false.1 hb i (Nat.zero_le _) o_;have hv:∀i,i<r.n->NR (r.I i 0) (r.I i 1) (r.I i 2) (r.I i 3)=true:=fun i hi=>by
    have:=hall i hi;unfold I5 at this;rw[AI]at this;simpa using this.1
   refine⟨hv,fun i hi=>?_⟩;have:=hall (i+1) hi;unfold I5 at this;rw[AI,A4 (show(((i+1:Nat):Int))>0 by omega)]at this;have h2:=this.2;rw[show i+1-1=i by omega]at h2;have h3:F8 (r.I i 2) (r.I i 3) (r.I (i+1) 0) (r.I (i+1) 1)=true:=by simpa using h2
   obtain⟨_,g1⟩:=Ji (hv i o_);obtain⟨g2,_⟩:=Ji (hv (i+1) hi);rw[Ll (Rt.chk_good g1).1 (Rt.chk_good g2).1]at h3;exact AD h3
def Ahi(n:Int)(r:Row):Bool:=bif (r.n:Int)>0 then decide (r.I 0 0<0)||decide (Rt.cpC n 1 (r.I (r.n-1) 2) (r.I (r.n-1) 3)<0)else false
def Ab3{n:Int}(hn:1<=n∧n<=1000):Rt.chkE n 1=0:=by
 unfold Rt.chkE;refine AM ⟨o_,o_,?_⟩;unfold Rt.gcdI;simp
def Aba{n d m e:Int}(h1:Rt.chkE n d=0)(h2:Rt.chkE m e=0):decide (Rt.cpC n d m e<0)=F8 n d m e:=by
 have:=UF h1 h2;cases hl:F8 n d m e
 ·rw[hl]at this;have:=AD this;exact AB o_
 ·rw[hl]at this;have:=AO this;exact A4 o_
def Aiu{n:Int}{r:Row}(hn:1<=n∧n<=1000)(h:NF r=0):Zw n r= !Ahi n r:=by
 obtain⟨hv,ho⟩:=aK h;have hc:=Ab3 hn;have g0:=fun i hi=>(Ji (hv i hi)).1;have g2:=fun i hi=>(Ji (hv i hi)).2;have p1:∀i,i<r.n->0<r.I i 1:=fun i hi=>by have:=(Rt.chk_good (g0 i hi)).1.1;omega
 have p3:∀i,i<r.n->0<r.I i 3:=fun i hi=>by have:=(Rt.chk_good (g2 i hi)).1.1;omega
 have l0:∀i,i<r.n->F8 n 1 (r.I i 0) (r.I i 1)=decide (n*r.I i 1<r.I i 0*1):=fun i hi=>Ll o_ (Rt.chk_good (g0 i hi)).1;have l2:∀i,i<r.n->F8 n 1 (r.I i 2) (r.I i 3)=decide (n*r.I i 3<r.I i 2*1):=fun i hi=>Ll o_ (Rt.chk_good (g2 i hi)).1;have hb:∀i,i<r.n->Qn n r i=((decide (r.I i 0<0)||decide (n*r.I i 1<r.I i 0*1))||(decide (r.I i 2<0)||decide (n*r.I i 3<r.I i 2*1))):=fun i hi=>by
  unfold Qn dF;rw[g0 i hi,g2 i hi,l0 i hi,l2 i hi];rw[show decide (r.I i 0>=0)= !decide (r.I i 0<0) by rw[<-decide_not,decide_eq_decide];omega,show decide (r.I i 2>=0)= !decide (r.I i 2<0) by rw[<-decide_not,decide_eq_decide];omega];cases decide (r.I i 0<0)<;>cases decide (n*r.I i 1<r.I i 0*1)<;>cases decide (r.I i 2<0)<;>cases decide (n*r.I i 3<r.I i 2*1)<;>rfl
 unfold Zw Ahi;rcases Nat.eq_zero_or_pos r.n with h0|h0
 ·rw[AB (show¬(r.n:Int)>0 by omega),h0];rfl
 rw[A4 (show(r.n:Int)>0 by omega),Aba hc (g2 (r.n-1) o_),l2 (r.n-1) o_];show(!Ag (Qn n r) r.n 0)= !(decide (r.I 0 0<0)||decide (n*r.I (r.n-1) 3<r.I (r.n-1) 2*1))
 congr 1
 rw[Bool.eq_iff_iff,anyF_iff,Bool.or_eq_true,A3,A3];have up:0<=r.I 0 0->∀i,i<r.n->0<=r.I i 0∧0<=r.I i 2:=fun hz i=>by
  have one:∀i,i<r.n->0<=r.I i 0->0<=r.I i 2:=fun i hi h=>by
   have a:=QI (hv i hi);have b:0<=r.I i 0*r.I i 3:=Int.mul_nonneg h (by have:=p3 i hi;omega);refine Int.le_of_lt (Int.pos_of_mul_pos_left (b:=r.I i 1) ?_ (p1 i hi));omega
  induction i with
  |zero=>exact fun hi=>⟨hz,one 0 hi hz⟩
  |succ i ih=>
   intro hi;obtain⟨_,h2⟩:=ih o_;have a:=ho i hi;have b:0<=r.I i 2*r.I (i+1) 1:=Int.mul_nonneg h2 (by have:=p1 (i+1) hi;omega);have c:0<=r.I (i+1) 0:=Int.le_of_lt (Int.pos_of_mul_pos_left (b:=r.I i 3) o_ (p3 i o_));exact⟨c,one (i+1) hi c⟩
 have last:∀k i,i+k+1=r.n->n*r.I i 3<r.I i 2*1->n*r.I (r.n-1) 3<r.I (r.n-1) 2*1:=fun k=>by
  induction k with
  |zero=>intro i hi h;rw[show r.n-1=i by omega];exact h
  |succ k ih=>
   intro i hi h;refine ih (i+1) o_ ?_;have a:=MG d_ (p3 i o_) (p1 (i+1) o_) h (ho i o_);exact MG d_ (p1 (i+1) o_) (p3 (i+1) o_) a (QI (hv (i+1) o_))
 constructor
 ·rintro⟨i,_,h2,h3⟩;have hi:i<r.n:=o_;rw[hb i hi]at h3;simp only[Bool.or_eq_true,A3]at h3;by_cases hz:0<=r.I 0 0
  ·obtain⟨u1,u2⟩:=up hz i hi;refine .inr (last (r.n-1-i) i o_ ?_);rcases h3 with(h3|h3)|(h3|h3)
   ·omega
   ·exact MG d_ (p1 i hi) (p3 i hi) h3 (QI (hv i hi))
   ·omega
   ·exact h3
  ·exact .inl o_
 ·rintro(h3|h3)
  ·exact⟨0,AC _,o_,by rw[hb 0 h0,A4 h3];rfl⟩
  ·refine⟨r.n-1,Nat.zero_le _,o_,?_⟩;rw[hb (r.n-1) o_,A4 h3];simp
def YM:Dl:={τ:=[.v (.sl 0)]++pu 2++[.v (.int .i64)]++pu 34,saved:=[[]],mem:=[.row Qw false]}
structure A_lc3 where
 n:Nat
 j:Int
 r:Row
def wM(its:List It):Option A_lc3:=match its with|[.n n,.i j,.r r]=>some ⟨n,j,r⟩|_=>none
def vI(x:A_lc3):Bool:=x.j=0∧x.n<=1000000∧(∀i,i<x.n->Nq x.r i=true)
def c_lc3_iff{x:A_lc3}:=@Bl _ vI _ _ rfl x
def lc3:ScanL A_lc3:=⟨94,4,[0,3],[2],YM,wM,fun x j=>[.n x.n,.i (j:Int),.r x.r],fun x=>x.n,vI,fun x j=>I5 x.r j,fun x j K=>K .ret ⟨us 2++[i64 8]++us 35,[[]],[]⟩,fun x K=>K (.exit 0) ⟨us 38,[[]],[]⟩⟩
noncomputable def Cc3:Cx:=AP Tryz.prog fns [(133,ZQ),(134,Ab1)] [lc3.C]
def Ad8(R:St->OD)(K:X->St->OD)(q n:Nat)(j:Int)(r:Row):Ak Cc3 94 4 q (bst YM [.n n,.i j,.r r]) (BF [0,3] (some [2]) R K)=br (j<(n:Int)) (br (0<=j&&j<(n:Int)) (br (Rt.iR (r.I (0+j.toNat) 0)&&Rt.iR (r.I (0+j.toNat) 1)&&Rt.iR (r.I (0+j.toNat) 2)&&Rt.iR (r.I (0+j.toNat) 3)) (br (!NR (r.I (0+j.toNat) 0) (r.I (0+j.toNat) 1) (r.I (0+j.toNat) 2) (r.I (0+j.toNat) 3)) (lc3.Kb ⟨n,j,r⟩ 0 K) (br (j>0) (br (0<=IntKind.i64.wrap (j-1)&&IntKind.i64.wrap (j-1)<(n:Int)) (br (0<=j&&j<(n:Int)) (br (Rt.iR (r.I (0+(IntKind.i64.wrap (j-1)).toNat) 2)&&Rt.iR (r.I (0+(IntKind.i64.wrap (j-1)).toNat) 3)&&Rt.iR (r.I (0+j.toNat) 0)&&Rt.iR (r.I (0+j.toNat) 1)) (br (!F8 (r.I (0+(IntKind.i64.wrap (j-1)).toNat) 2) (r.I (0+(IntKind.i64.wrap (j-1)).toNat) 3) (r.I (0+j.toNat) 0) (r.I (0+j.toNat) 1)) (lc3.Kb ⟨n,j,r⟩ 0 K) (R (bst YM [.n n,.i (IntKind.i64.wrap (j+1)),.r r]))) none) none) none) (R (bst YM [.n n,.i (IntKind.i64.wrap (j+1)),.r r])))) none) none) (lc3.Ke ⟨n,j,r⟩ K):=k_
def uc3(r:Row):BH Cc3 6 94 [.slice Qw r]=br ((r.n:Int)>60) (some [.v (i64 4)]) (br (vI (⟨r.n,0,r⟩:A_lc3)) (br (Ag (fun j=>I5 r j) r.n 0) (some [.v (i64 8)]) (some [.v (i64 0)])) none):=k_
def Amf:Ah Cc3 lc3.C:=lc3.ok k_
 (fun its x h hc=>by
  replace h:wM its=some x:=h;unfold wM at h;split at h
  ·cases h;have h:=c_lc3_iff.1 hc;dsimp only at h;obtain⟨rfl,_⟩:=h;rfl
  ·cases h)
 (fun x hc=>by have:=c_lc3_iff.1 hc;show x.n<2^64;omega)
 (fun q ⟨n,j0,r⟩ j hc hi R K=>by
  obtain⟨h1,h2,h3⟩:=c_lc3_iff.1 hc;dsimp only at*
  replace hi:j<n:=hi;refine(Ad8 R K q n ((j:Int)) r).trans ?_;have k1:=h3 j hi;unfold Nq at k1;rw[A9,AE j,gd j n hi,DX j n hi,Eg o_,k1];show br (!NR (r.I j 0) (r.I j 1) (r.I j 2) (r.I j 3)) _ (br (decide ((j:Int)>0)) _ _)=br (I5 r j) _ _;unfold I5;rcases Nat.eq_zero_or_pos j with h0|h0
  ·rw[AB (show¬(j:Int)>0 by omega)];cases NR (r.I j 0) (r.I j 1) (r.I j 2) (r.I j 3)<;>rfl
  ·have k2:=h3 (j-1) o_;unfold Nq at k2;simp only[A2]at k1 k2;have e1:IntKind.i64.wrap ((j:Int)-1)=((j-1:Nat):Int):=(wrap64 o_ o_).trans o_;rw[A4 (show(j:Int)>0 by omega),e1,A9,AE,gd (j-1) n o_,k2.1.2,k2.2,k1.1.1.1,k1.1.1.2];cases NR (r.I j 0) (r.I j 1) (r.I j 2) (r.I j 3)<;>cases F8 (r.I (j-1) 2) (r.I (j-1) 3) (r.I j 0) (r.I j 1)<;>rfl)
 (fun q ⟨n,j0,r⟩ hc R K=>by
  obtain⟨h1,h2,h3⟩:=c_lc3_iff.1 hc;dsimp only at*
  refine(Ad8 R K q n ((n:Int)) r).trans ?_;rw[EU n];rfl)
def Amd:Be Cc3:=Aj enter mixed (Aw yD<|Aw QR AX) (Aw Amf AX)
def yZ:Den Tryz.prog 94 ZN:=Af Amd fun ds rs h=>by
 unfold ZN at h;split at h
 ·rename_i r;simp only[A5,A6,A3]at h;obtain⟨h0,rfl⟩:=h;refine(uc3 r).trans ?_;rw[<-Ya];unfold Abj;rw[c_lc3_iff.2 ⟨rfl,h0⟩,Aa];cases decide ((r.n:Int)>60)
  ·show br (Ag (I5 r) r.n 0) _ _=_;cases Ag (I5 r) r.n 0<;>rfl
  ·rfl
 ·cases h
end Go.Proofs.YtnljjjghpgdmoaaGreatDoor

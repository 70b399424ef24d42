import Derived.Test.YtnljjjghpgdmoaaGreatDoorXar
import Derived.Test.YtnljjjghpgdmoaaGreatDoorTie
import Derived.Test.YtnljjjghpgdmoaaGreatDoorCards
import Derived.Lib.LaidU8
import Derived.Lib.LaidTab
import Derived.LaidLaws
import Derived.Handed
set_option linter.all false
namespace Go.Proofs.YtnljjjghpgdmoaaGreatDoor
open Go.Ev Go.Lib Go.RowKit
theorem EJ{ks:List CK}{r r':Row}(h:RdA ks r r'):RdA ks r' r:=by
 refine RdA.rec (motive_1:=fun ks r r' _=>RdA ks r' r) (motive_2:=fun k r r' e j _=>PN k r' r e j) ?_ ?_ ?_ ?_ ?_ ?_ h
 ·intro ks r r' hn _ ih;exact .mk hn.symm fun e j k he hk=>ih e j k (by omega) hk
 ·intro k r r' e j h;exact .int h.symm
 ·intro r r' e j h;exact .bool h.symm
 ·intro r r' e j h;exact .str h.symm
 ·intro sub r r' e j _ ih;exact .slice ih
 ·intro r r' e j;exact .other
theorem DV{ks:List CK}{r r' r'':Row}(h:RdA ks r r')(h2:RdA ks r' r''):RdA ks r r'':=by
 refine RdA.rec (motive_1:=fun ks r r' _=>∀r'',RdA ks r' r''->RdA ks r r'') (motive_2:=fun k r r' e j _=>∀r'',PN k r' r'' e j->PN k r r'' e j) ?_ ?_ ?_ ?_ ?_ ?_ h r'' h2
 ·intro ks r r' hn _ ih r'' h;cases h with
  |mk hn2 hh=>exact .mk (hn.trans hn2) fun e j k he hk=>ih e j k he hk r'' (hh e j k (by omega) hk)
 ·intro k r r' e j h r'' h2;cases h2 with
  |int h2=>exact .int (h.trans h2)
 ·intro r r' e j h r'' h2;cases h2 with
  |bool h2=>exact .bool (h.trans h2)
 ·intro r r' e j h r'' h2;cases h2 with
  |str h2=>exact .str (h.trans h2)
 ·intro sub r r' e j _ ih r'' h2;cases h2 with
  |slice h2=>exact .slice (ih _ h2)
 ·intro r r' e j r'' _;exact .other
theorem EN(ks:List CK)(r:Row):RdA ks (Ad r) r:=.mk wn_ fun e j k _ _=>by
 cases k with
 |int k=>exact .int rfl
 |bool=>exact .bool rfl
 |str=>exact .str rfl
 |slice sub=>exact .slice (RdA.refl (r.R e j) sub)
 |other=>exact .other
theorem AlDc.wD(x:Dc):AlDc (wD x) x:=⟨rfl,EN ..,EN ..,rfl,EN ..,EN ..,EN ..,EN ..,rfl,EN ..,EN ..,rfl,EN ..,EN ..,rfl⟩
theorem AlDc.symm{x y:Dc}(h:AlDc x y):AlDc y x:=⟨h.k.symm,EJ h.ca,EJ h.pi,h.pc.symm,EJ h.wo,EJ h.gv,EJ h.aa,EJ h.fv,h.rr.symm,EJ h.lr,EJ h.lp,h.ld.symm,EJ h.ba,EJ h.pa,h.cl.symm⟩
theorem AlDc.trans{x y z:Dc}(h:AlDc x y)(g:AlDc y z):AlDc x z:=⟨h.k.trans g.k,DV h.ca g.ca,DV h.pi g.pi,h.pc.trans g.pc,DV h.wo g.wo,DV h.gv g.gv,DV h.aa g.aa,DV h.fv g.fv,h.rr.trans g.rr,DV h.lr g.lr,DV h.lp g.lp,h.ld.trans g.ld,DV h.ba g.ba,DV h.pa g.pa,h.cl.trans g.cl⟩
theorem IA{m:Nat}{ks:List CK}{r s:Row}(h:RdA ks r s)(hk:∀c,c<m->ks[c]? =some (.int .i64)):Hm m r s:=⟨h.hn,fun j hj c hc=>h.I (hk c hc) hj⟩
theorem Ag3{x y:Dc}(h:AlDc x y)(o:DcOk x):SmP x y:=by
 have n1:∀c,c<1->SY[c]? =some (.int .i64):=fun c hc=>by rw[lt1 hc];rfl
 have rw1:∀(m:Nat)(sub:List CK)(r s:Row),RdA [.slice sub] r s->(∀c,c<m->sub[c]? =some (.int .i64))->(r.n<=1000000)->(∀e,e<r.n->(r.R e 0).n<=1000000)->r.n=s.n∧r.n<=1000000∧Qs m r s r.n:=fun m sub r s h hk h1 h2=>⟨h.hn,h1,fun i hi=>⟨h2 i hi,IA (h.R (sub:=sub) (c:=0) rfl hi) hk⟩⟩;exact⟨⟨h.k,h.cl,h.pc,h.rr,h.ld⟩,⟨h.ca.hn,o.ca.1,fun i hi=>⟨h.ca.I (k:=.i64) (c:=0) rfl hi,(o.ca.2 i hi).2.1.1,(o.ca.2 i hi).2.2.1,IA (h.ca.R (sub:=SY) (c:=1) rfl hi) n1,IA (h.ca.R (sub:=SY) (c:=2) rfl hi) n1⟩⟩,
  rw1 4 _ _ _ h.pi (fun c hc=>by rcases lt4 hc with rfl|rfl|rfl|rfl<;>rfl) o.pi.1 (fun e he=>(o.pi.2 e he).1),rw1 2 _ _ _ h.wo (fun c hc=>by rcases lt2 hc with rfl|rfl<;>rfl) o.wo.1 (fun e he=>(o.wo.2 e he).1),rw1 1 _ _ _ h.gv n1 o.gv.1 (fun e he=>(o.gv.2 e he).1),
  ⟨o.aa.1,IA h.aa n1⟩,rw1 1 _ _ _ h.fv n1 o.fv.1 (fun e he=>(o.fv.2 e he).1),⟨o.lr.1,IA h.lr n1⟩,⟨o.lp.1,IA h.lp n1⟩,⟨o.ba.1,IA h.ba n1⟩,⟨o.pa.1,IA h.pa fun c hc=>by rcases lt3 hc with rfl|rfl|rfl<;>rfl⟩⟩
theorem Adh{k:Int}:DcOk (G9 (Uc k)):=by
 have a:NumsOk .nil:=⟨Nat.zero_le _,fun j hj=>absurd hj (Nat.not_lt_zero _)⟩;have z:(0:Int)<=0∧(0:Int)<=255:=by decide
 have b:∀m,RowsOk m .nil:=fun m=>⟨Nat.zero_le _,fun j hj=>absurd hj (Nat.not_lt_zero _)⟩;exact{ca:=⟨Nat.zero_le _,fun j hj=>absurd hj (Nat.not_lt_zero _)⟩,pi:=b 4,wo:=b 2,gv:=b 1,aa:=a,fv:=b 1,lr:=a,lp:=a,ba:=a,pa:=⟨Nat.zero_le _,fun j hj=>absurd hj (Nat.not_lt_zero _)⟩,rr:=UY,ld:=UY,pc:=z,cl:=z}
theorem ZX{s:ByteArray}(hs:s.size<=60000):DcOk (G9 (JM s)):=by
 have hr:=Ln.rest_le s;have hl:=Ln.lnN_le (Ln.restB s);have h:=TS (stop:=lpl.stop (oZ s (Ln.restB s) (LY (Ln.oneB s)))) (nx:=lpl.nx (oZ s (Ln.restB s) (LY (Ln.oneB s)))) (Inv:=fun j a=>a.rest.size<=60000∧SzP a.p j∧DcOk (G9 a.p)) (len:=Ln.lnN (Ln.restB s))
  (fun j a hj hI _=>by
   have h1:=Ln.rest_le a.rest;have h2:=Ln.one_size a.rest;exact⟨Nat.le_trans h1 hI.1,hI.2.1.rd _ _,Acf (s:=Ln.oneB a.rest) (p:=a.p) (j:=j) (by have:=hI.1;omega) hI.2.1 (by omega) hI.2.2⟩)
  (m:=Ln.lnN (Ln.restB s)) (j:=0) (a:=lpl.ini (oZ s (Ln.restB s) (LY (Ln.oneB s)))) (by omega) ⟨by show(Ln.restB s).size<=60000;omega,⟨AC _,AC _,AC _,AC _,AC _,AC _⟩,Adh⟩
 exact h.1.2.2
theorem We{x:Dc}(h:DcOk x):Yz x=true:=by
 have h2:=h.al (AlDc.can x);unfold Yz tcG;rw[Wu h2,Bool.true_and];by_cases e:ckE vB (Dh x)=0
 ·rw[Xv h2 e];simp
 ·rw[show(ckE vB (Dh x) !=0)=true by simpa using e];rfl
theorem ZI{s:ByteArray}(hs:s.size<=60000):xpC s=true:=by
 unfold xpC;rw[We (ZX hs)];simp
theorem Ajc{x:Dc}(h:qN x=0):ckE vB x=0∧(Jn x).length<=60000∧vX x=txt (Jn x):=by
 unfold qN Me at h;obtain⟨h1,h2⟩:=Yk h;obtain⟨h3,_⟩:=bz (by decide) h2;refine⟨h1,by have:=AO h3;omega,?_⟩;unfold vX P9;rw[h1,h3];rfl
theorem back{y:Dc}(hy:DcOk y)(h:FQ y=0):(Kz y).size<=60000∧pJ (Kz y)=true∧AlDc (NF (Kz y)) y∧ckE vB (Dh y)=0:=by
 obtain⟨h1,h2,h3⟩:=Ajc h;have hX:=hy.al (AlDc.can y);obtain⟨b1,b2⟩:=pV hX h1;have es:Kz y=txt (Jn (Dh y)):=h3;have hz:(Kz y).size<=60000:=by rw[es,BV];exact h2
 have ec:Dh (G9 (JM (Kz y)))=Dh y:=by
  rw[es,b2.eq];exact((AlDc.can y).eq).symm
 have hk:pJ (Kz y)=true:=by
  have a1:Yb (Kz y)=false:=by rw[es];exact b1
  have a2:FQ (G9 (JM (Kz y)))=0:=(congrArg qN ec).trans h;have a3:Kz (G9 (JM (Kz y)))=Kz y:=congrArg vX ec;unfold pJ;rw[AB (by omega),a1,a2,a3];simp
 refine⟨hz,hk,?_,h1⟩;have ed:NF (Kz y)=G9 (JM (Kz y)):=by unfold NF;rw[hk];rfl
 rw[ed,es];exact b2.trans (AlDc.can y).symm
theorem Ai6{s:ByteArray}(h:pJ s=true):NF s=G9 (JM s)∧FQ (NF s)=0∧Kz (NF s)=s∧ckE vB (Dh (NF s))=0:=by
 have ed:NF s=G9 (JM s):=by unfold NF;rw[h];rfl
 have hk:=h;unfold pJ at hk;simp only[A2,beq_iff_eq]at hk;obtain⟨_,_,h1,h2⟩:=hk;have h2':Kz (G9 (JM s))=s:=Ci _ _|>.1 (by simpa using h2);rw[ed];exact⟨rfl,h1,h2',(Ajc h1).1⟩
structure WfX(x:Dc):Prop where
 ca:WfR kC1 x.ca
 pi:WfR kP1 x.pi
 wo:WfR kW1 x.wo
 gv:WfR kL1 x.gv
 aa:WfR SY x.aa
 fv:WfR kL1 x.fv
 lr:WfR SY x.lr
 lp:WfR SY x.lp
 ba:WfR SY x.ba
 pa:WfR k31 x.pa
 rr:iR x.rr=true
 ld:iR x.ld=true
 pc:0<=x.pc∧x.pc<=255
 cl:0<=x.cl∧x.cl<=255
theorem Agr{ks:List CK}{r:Row}(h:WfR ks r):r.n<=9223372036854775807:=by cases h with|mk h _=>exact h
theorem vG{ks:List CK}{r:Row}(h:WfR ks r){c:Nat}(hc:ks[c]? =some (.int .i64)){e:Nat}(he:e<r.n):iR (r.I e c)=true:=by
 cases h with
 |mk _ hh=>
  cases hh e c _ he hc with
  |int h=>exact A4 (wf64.1 h)
theorem Abm{ks:List CK}{r:Row}(h:WfR ks r){sub:List CK}{c:Nat}(hc:ks[c]? =some (.slice sub)){e:Nat}(he:e<r.n):WfR sub (r.R e c):=by
 cases h with
 |mk _ hh=>
  cases hh e c _ he hc with
  |slice h=>exact h
theorem nums_wf{r:Row}(h:WfR SY r)(hn:r.n<=1000000):NumsOk r:=⟨hn,fun j hj=>vG h rfl hj⟩
theorem NG{m:Nat}{sub:List CK}{r:Row}(h:WfR [.slice sub] r)(hs:∀c,c<m->sub[c]? =some (.int .i64))(hn:r.n<=1000000)(hr:∀e,e<r.n->(r.R e 0).n<=1000000):RowsOk m r:=⟨hn,fun e he=>⟨hr e he,fun j hj c hc=>vG (Abm h (sub:=sub) (c:=0) rfl he) (hs c hc) hj⟩⟩
theorem nI{x:Dc}(h:WfX x)(hg:grX x=false):DcOk x:=by
 unfold grX at hg;simp only[AI]at hg;obtain⟨g1,g2,g3,g4,g5,g6,g7,g8⟩:=hg;unfold gr6 at g3;simp only[AI]at g3;obtain⟨_,g3,g9⟩:=g3;unfold gr4 at g3;simp only[AI]at g3;obtain⟨g3,g10⟩:=g3;have n1:x.ca.n<=10:=by have:=AO g10;have e:(Ad (Ad x.ca)).n=x.ca.n:=rfl;omega
 have n2:x.pi.n<=10:=by have:=AO g9;have e:(Ad x.pi).n=x.pi.n:=rfl;omega
 have n3:x.wo.n<=20:=by have:=AO g4;omega
 unfold VX at g5;simp only[AI]at g5;obtain⟨g5,g11,g12⟩:=g5;have n4:x.gv.n<=20:=by have:=AO g11;have e:(Ad x.gv).n=x.gv.n:=rfl;omega
 have n5:x.aa.n<=50:=by have:=AO g12;have e:(Ad x.aa).n=x.aa.n:=rfl;omega
 unfold V9 WC at g6;simp only[AI]at g6;obtain⟨⟨g13,_,g14⟩,g15,g16⟩:=g6;have n6:x.fv.n<=20:=by have:=AO g14;have e:(Ad (Ad x.fv)).n=x.fv.n:=rfl;omega
 have n7:x.lr.n<=50:=by have:=AO g15;have e:(Ad x.lr).n=x.lr.n:=rfl;omega
 have n8:x.lp.n<=50:=by have:=AO g16;have e:(Ad x.lp).n=x.lp.n:=rfl;omega
 unfold grb at g7;simp only[AI]at g7;have n9:x.ba.n<=20:=by have:=AO g7.2;have e:(Ad x.ba).n=x.ba.n:=rfl;omega
 unfold gpn at g8;simp only[AI]at g8;have n10:x.pa.n<=210:=by have:=AO g8.2;omega
 exact{
  ca:=⟨by omega,fun e he=>by
   have q:Z9 (x.ca.R e 1) (x.ca.R e 2)=false:=Jq g3 (j:=e) he;unfold Z9 at q;simp only[AI]at q;have q1:=AO q.1;have q2:=AO q.2;exact⟨vG h.ca rfl he,nums_wf (Abm h.ca (c:=1) rfl he) (by omega),nums_wf (Abm h.ca (c:=2) rfl he) (by omega)⟩⟩
  pi:=NG h.pi (fun c hc=>by rcases lt4 hc with rfl|rfl|rfl|rfl<;>rfl) (by omega) fun e he=>by
   have q:=Jq g1 he;unfold TY at q;simp only[AI]at q;have:=AO q.2;omega
  wo:=NG h.wo (fun c hc=>by rcases lt2 hc with rfl|rfl<;>rfl) (by omega) fun e he=>by
   have:=AO (Jq g2 he);omega
  gv:=NG h.gv (fun c hc=>by rw[lt1 hc];rfl) (by omega) fun e he=>by
   have q:¬((x.gv.R e 0).n:Int)>50:=AO (anyF_false.1 g5 e (Nat.zero_le _) (by have e1:(Ad x.gv).n=x.gv.n:=rfl;omega));omega
  aa:=nums_wf h.aa (by omega)
  fv:=NG h.fv (fun c hc=>by rw[lt1 hc];rfl) (by omega) fun e he=>by
   have q:¬((x.fv.R e 0).n:Int)>50:=AO (anyF_false.1 g13 e (Nat.zero_le _) (by have e1:(Ad (Ad x.fv)).n=x.fv.n:=rfl;omega));omega
  lr:=nums_wf h.lr (by omega)
  lp:=nums_wf h.lp (by omega)
  ba:=nums_wf h.ba (by omega)
  pa:=⟨by omega,fun e he c hc=>vG h.pa (by rcases lt3 hc with rfl|rfl|rfl<;>rfl) he⟩
  rr:=h.rr,ld:=h.ld,pc:=h.pc,cl:=h.cl}
set_option maxRecDepth 100000
def Akf(c b:Dc->Bool):FD
 |[d]=>match Hg d with
  |some x=>some (c x,[.v (.bool (b x))])
  |none=>none
 |_=>none
def Akp(c:Dc->Dc->Bool):FD
 |[d,e]=>match Hg d,Hg e with
  |some x,some y=>some (c x y,[.v (.bool true)])
  |_,_=>none
 |_=>none
def Agi(c:Dc->Bool)(e:Dc->Int):FD
 |[d]=>match Hg d with
  |some x=>some (c x,[.v (i64 (e x))])
  |none=>none
 |_=>none
noncomputable def CB(gc gB tc:Dc->Bool)(tS:Dc->ByteArray)(tE:Dc->Int)(pc:ByteArray->Bool)(pd:ByteArray->Dc)(pe:ByteArray->Int)(sc:Dc->Dc->Bool)(cc:Dc->Bool)(ce:Dc->Int):Cx:=AU Tryz.prog fns [(13,Fal),(5,Akf gc gB),(6,V4 tc tS tE),(8,Abg pc pd pe),(12,Akp sc),(10,Agi cc ce)] []
def tT:OD:=some [.v (.bool true)]
def b2T(tc:Dc->Bool)(tS:Dc->ByteArray)(tE:Dc->Int)(pc:ByteArray->Bool)(pe:ByteArray->Int)(cc:Dc->Bool)(ce:Dc->Int)(y:Dc)(s:ByteArray):OD:=br (pc s) (br (pe s !=0) (some [.v (.bool (pe s==12))]) (br (tc y) (br (tE y==0) (br ((tS y).toList==s.toList) (br (cc y) (some [.v (.bool (ce y==0))]) none) fF) fF) none)) none
def b1T(gc gB tc:Dc->Bool)(tS:Dc->ByteArray)(tE:Dc->Int)(pc:ByteArray->Bool)(pd:ByteArray->Dc)(pe:ByteArray->Int)(sc:Dc->Dc->Bool)(cc:Dc->Bool)(ce:Dc->Int)(x:Dc)(s:ByteArray)(t:OD):OD:=br (gc x) (br (gB x) tT (br (decide ((s.size:Int)>5000)) tT (br (tc x) (br (tE x==0) (br (pc (tS x)) (br (pe (tS x) !=0) fF (br (sc (wD (pd (tS x))) x) (br (cc x) (br (ce x !=0) fF t) none) none)) none) (br (cc x) (br (tE x !=ce x) (br (tE x !=4) fF t) t) none)) none))) none
theorem uB(gc gB tc:Dc->Bool)(tS:Dc->ByteArray)(tE:Dc->Int)(pc:ByteArray->Bool)(pd:ByteArray->Dc)(pe:ByteArray->Int)(sc:Dc->Dc->Bool)(cc:Dc->Bool)(ce:Dc->Int)(x:Dc)(s:ByteArray):BZ (CB gc gB tc tS tE pc pd pe sc cc ce) 6 4 [x.D,.v (.string s)]=b1T gc gB tc tS tE pc pd pe sc cc ce (wD x) s (b2T tc tS tE pc pe cc ce (wD (pd s)) s):=by kernel_rfl
def oW(x:Dc):Int:=ckE vB (Dh x)
def YS(x:Dc):Bool:=wO vB (Dh x)
theorem rM:DenW Tryz.prog Wd 10 (Agi YS oW):=(Xd yN).canon.less fun ds rs h=>by
 unfold Agi at h;split at h
 ·rename_i d;split at h
  ·rename_i x hx;have e:=EX hx;subst e;exact h
  ·cases h
 ·cases h
noncomputable def CBX:Cx:=CB grC grX Yz Kz FQ xpC NF Zm smB YS oW
theorem Ad4:P8 CBX Wd:=by
 unfold CBX CB;exact CP enter mixed (fun p h=>by
  simp only[A8,A7,or_false]at h;rcases h with rfl|rfl|rfl|rfl|rfl|rfl
  ·exact Y3
  ·exact den_grX.at _
  ·exact Xk
  ·exact pR
  ·exact den_smX.at _
  ·exact rM) (fun l h=>by cases h)
theorem Ac5(x:Dc):Dh (wD x)=Dh x:=(AlDc.wD x).eq
theorem Ajk{s:ByteArray}(hs:s.size<=60000):b2T Yz Kz FQ xpC Zm YS oW (wD (NF s)) s=tT:=by
 have h1:=ZI hs;unfold b2T;rw[h1,Aa];cases hk:pJ s with
 |false=>
  have he:Zm s=12:=by unfold Zm;rw[hk];rfl
  rw[he];rfl
 |true=>
  have he:Zm s=0:=by unfold Zm;rw[hk];rfl
  obtain⟨f1,f2,f3,f4⟩:=Ai6 hk;have ho:DcOk (NF s):=by rw[f1];exact ZX hs
  have ec:=Ac5 (NF s);have t1:Yz (wD (NF s))=true:=by unfold Yz;rw[ec];exact We ho
  have t2:FQ (wD (NF s))=0:=(congrArg qN ec).trans f2;have t3:Kz (wD (NF s))=s:=(congrArg vX ec).trans f3;have t4:YS (wD (NF s))=true:=(congrArg (wO vB) ec).trans (Wu (ho.al (AlDc.can _)));have t5:oW (wD (NF s))=0:=(congrArg (ckE vB) ec).trans f4;rw[he,t1,t2,t3,t4,t5,show(s.toList==s.toList)=true from beq_self_eq_true _];rfl
theorem EO{ks:List CK}{r:Row}(h:WfR ks r):WfR ks (Ad r):=by
 cases h with
 |mk h hh=>
  refine .mk (by rw[Aif];exact h) fun e j k he hk=>?_;rw[Aif]at he;have g:=hh e j k he hk;cases g with
  |int g=>exact .int g
  |bool=>exact .bool
  |str g=>exact .str g
  |slice g=>exact .slice g
theorem WfX.wD{x:Dc}(h:WfX x):WfX (wD x):=⟨EO h.ca,EO h.pi,EO h.wo,EO h.gv,EO h.aa,EO h.fv,EO h.lr,EO h.lp,EO h.ba,EO h.pa,h.rr,h.ld,h.pc,h.cl⟩
theorem ZA{x:Dc}(hw:WfX x)(s:ByteArray):BZ CBX 6 4 [x.D,.v (.string s)]=some [.v (.bool true)]:=by
 refine(uB grC grX Yz Kz FQ xpC NF Zm smB YS oW x s).trans ?_;have hww:=hw.wD;have hg:grC (wD x)=true:=A4 ⟨Agr hww.ca,Agr hww.pi,Agr hww.wo⟩;unfold b1T;rw[hg,Aa];cases hG:grX (wD x)with
 |true=>rfl
 |false=>
  rw[Ac];by_cases hs:(s.size:Int)>5000
  ·rw[A4 hs];rfl
  ·rw[AB hs,Ac];have ho:=nI hww hG;have hc:YS (wD x)=true:=Wu (ho.al (AlDc.can _));rw[We ho,Aa,hc,Ajk (s:=s) (by omega)];by_cases he:FQ (wD x)=0
   ·obtain⟨k1,k2,k3,k4⟩:=back ho he;have e1:Zm (Kz (wD x))=0:=by unfold Zm;rw[k2];rfl
    have e2:smB (wD (NF (Kz (wD x)))) (wD x)=true:=by
     have ha:=(AlDc.wD (NF (Kz (wD x)))).trans k3;exact A4 (Ag3 ha (ho.al ha.symm))
    have e3:oW (wD x)=0:=k4;rw[he,ZI k1,e1,e2,e3];rfl
   ·rw[show(FQ (wD x)==0)=false by simpa using he,Ac,Aa];by_cases h2:ckE vB (Dh (wD x))=0
    ·have h4:FQ (wD x)=4:=by
      have:FQ (wD x)=Me (ckE vB (Dh (wD x))) (Jn (Dh (wD x))):=rfl;rw[this]at he⊢;unfold Me at he⊢;rw[h2]at he⊢;cases hd:decide (60000<(Jn (Dh (wD x))).length)
      ·rw[hd]at he;exact absurd rfl he
      ·rfl
     rw[h4,show((4:Int) !=4)=false by rfl,Ac];cases((4:Int) !=oW (wD x))<;>rfl
    ·have h4:FQ (wD x)=oW (wD x):=by
      have:FQ (wD x)=Me (ckE vB (Dh (wD x))) (Jn (Dh (wD x))):=rfl;rw[this];unfold Me;rw[show(ckE vB (Dh (wD x)) !=0)=true by simpa using h2];rfl
     rw[h4,show(oW (wD x) !=oW (wD x))=false by simp,Ac];rfl
end Go.Proofs.YtnljjjghpgdmoaaGreatDoor
namespace Go.Proofs.YtnljjjghpgdmoaaGreatDoor
open Go.ChangeShapes Go.Ev Go.RowKit Go.WideShapes
set_option maxRecDepth 100000
theorem own:ownKnob Tryz.prog.godebug=none:=by kernel_rfl
theorem laidOut:laidOutB Tryz.prog=true:=by kernel_rfl
theorem PE{H:Type}{enc:TypeId×Value->H}{P:Program}{w:World}{base:Nat}{sp:Nat->Bool}{held:Bool}{fuel:Nat}{t e:TypeId}{n:Nat}{k:IntKind}{cs:List Value}{zs:List Int}{p:List MemPlace}
  (ht:P.underlying t=some (.array n e)) (he:P.underlying e=some (.int k)) (hc:P.cellsOf e=1) (h:DataW.trod enc P w base sp held fuel t cs=some (.agg (zs.map fun z=>.lit (.int k z)),p)) (i:Nat) (z:Int) (hz:zs[i]? =some z):cs[i]? =some (.int k z):=by
 obtain⟨xs,m,rfl,hx,hl,hxl,hall⟩:=DataW.trod_array ht h;have hxs:xs.map (·.1)=zs.map fun z=>(DataW.lit (.int k z):DataW H):=by
  have:=congrArg Prod.fst hx;simpa using this.symm
 have hzl:zs.length=n:=by
  have:=congrArg List.length hxs;simp at this;omega
 have hi:i<n:=by
  have:=(A0.1 hz).1;omega
 have h1:=hall i hi;obtain⟨b,hb⟩:∃b,xs[i]? =some b:=⟨xs[i]'(by omega),AK (by omega)⟩;rw[hb,hc,Nat.mul_one]at h1;obtain⟨y,hcz,hy,_⟩:=DataW.trod_int he h1;have h2:cs[i]? =some (.int k y):=by
  have:=congrArg (·[0]?) hcz;simpa [List.getElem?_take,List.getElem?_drop]using this
 have h3:(xs.map (·.1))[i]? =some (DataW.lit (.int k z):DataW H):=by rw[hxs];simp[hz]
 rw[h2];have h4:(xs.map (·.1))[i]? =some b.1:=by simp[hb]
 rw[h4]at h3;have h5:=Option.some.inj h3;obtain⟨b1,b2⟩:=b;simp only[A6]at hy;have h6:(DataW.lit (Lit.int k y):DataW H)=DataW.lit (Lit.int k z):=hy.1.symm.trans h5;simp only[DataW.lit.injEq,Lit.int.injEq,true_and]at h6;rw[h6]
def UK:List (String×DataW Unit):=[("math/bits.deBruijn32tab",Rows.laid_math_bits_deBruijn32tab),("math/bits.deBruijn64tab",Rows.laid_math_bits_deBruijn64tab),("internal/strconv.uint64pow10",Rows.laid_internal_strconv_uint64pow10),("unicode/utf8.acceptRanges",Rows.laid_unicode_utf8_acceptRanges),("strconv.ErrRange",Rows.laid_strconv_ErrRange),("strconv.ErrSyntax",Rows.laid_strconv_ErrSyntax),("unicode/utf8.first",Rows.laid_unicode_utf8_first)]
def Xt(w:World):Prop:=laidMet Tryz.prog UK w
theorem OE{w:World}{n nm:String}{d:DataW Unit}{g t:Nat}{ms:Array (String×TypeId)}(h:Lib.VarReads Tryz.prog w n (.iface nm d))(hg:Tryz.prog.globalNamed n=some g)(ht:(Tryz.prog.globals[g]?).map (·.type)=some t)(hi:Tryz.prog.underlying t=some (.interface ms)):
  ∃te pe,w.cell? ⟨g,0,none⟩=some (.iface te pe):=by
 obtain⟨g',t',⟨l⟩,fuel,p,hg',ht',hvar,hd⟩:=h;obtain rfl:=Option.some.inj (hg.symm.trans hg');obtain rfl:=Option.some.inj (ht.symm.trans ht');cases fuel with
 |zero=>simp[DataW.trod]at hd
 |succ fuel=>
  unfold DataW.trod at hd;rw[hi]at hd;cases l with
  |nil=>simp at hd
  |cons x r=>
   cases r with
   |cons y r=>cases x<;>simp at hd
   |nil=>
    cases x with
    |iface u v=>exact⟨u,v,by rw[World.var?_cell hg hvar 0];rfl⟩
    |_=>simp at hd
theorem Xt.tz{w:World}(h:Xt w):Ld.Wt w:=by
 obtain⟨g,t,cs,fuel,p,hg,ht,hvar,hd⟩:=Lib.laidMet.reads h (n:= "math/bits.deBruijn64tab") (d:=Rows.laid_math_bits_deBruijn64tab) (by simp[UK]);obtain rfl:g=2:=Option.some.inj (hg.symm.trans (show Tryz.prog.globalNamed "math/bits.deBruijn64tab"=some 2 by kernel_rfl));obtain rfl:t=259:=Option.some.inj (ht.symm.trans (show(Tryz.prog.globals[2]?).map (·.type)=some 259 by kernel_rfl));have hdat:(Rows.laid_math_bits_deBruijn64tab:DataW Unit)=.agg ((Lib.deBruijn64tab.map fun(z:Nat)=>(z:Int)).map fun z=>.lit (.int .u8 z)):=by kernel_rfl
 rw[hdat]at hd;have hcell:∀j,j<Lib.deBruijn64tab.length->w.cell? ⟨2,j,none⟩=some (.int .u8 (Lib.deBruijn64tab.getD j 0)):=fun j hj=>by
  rw[World.var?_cell hg hvar j,<-Array.getElem?_toList];refine PE Tryz.underlying259 (by kernel_rfl) (by kernel_rfl) hd j _ ?_;rw[List.getElem?_map,AK hj,List.getD_eq_getElem?_getD,AK hj];rfl
 refine⟨hcell,?_⟩;have h0:=hcell 0 (by decide);rcases Nat.lt_or_ge 2 w.heap.size with h|h
 ·exact h
 ·exfalso;unfold World.cell? at h0;rw[show w.heap[2]? =none from Array.getElem?_eq_none h]at h0;cases h0
theorem Xt.wt{w:World}(hs:w.ShapedOpen Tryz.prog)(h:Xt w):Wd w:=by
 refine⟨?_,h.tz,Go.Proofs.cell_of_shapedOpen_int (zero:= #[.int .i64 0]) (t:=3) hs (AD (by kernel_rfl)) (by kernel_rfl) rfl (by kernel_rfl) (by kernel_rfl) Tryz.underlying3,?_,?_⟩
 ·obtain⟨g,t,cs,fuel,p,hg,ht,hvar,hd⟩:=Lib.laidMet.reads h (n:= "internal/strconv.uint64pow10") (d:=Rows.laid_internal_strconv_uint64pow10) (by simp[UK]);obtain rfl:g=3:=Option.some.inj (hg.symm.trans (show Tryz.prog.globalNamed "internal/strconv.uint64pow10"=some 3 by kernel_rfl));obtain rfl:t=261:=Option.some.inj (ht.symm.trans (show(Tryz.prog.globals[3]?).map (·.type)=some 261 by kernel_rfl));have hdat:(Rows.laid_internal_strconv_uint64pow10:DataW Unit)=Lib.tabData .u64 Lib.pow10Tab:=by kernel_rfl
  rw[hdat]at hd;have:=Lib.cells_of_tab (k:=.u64) (n:=20) (e:=189) (zs:=Lib.pow10Tab) Tryz.underlying261 (by kernel_rfl) (by kernel_rfl) (by kernel_rfl) hd;unfold Lib.TabIs;rw[hvar,<-this]
 ·exact OE (Lib.laidMet.reads h (n:= "strconv.ErrSyntax") (d:=Rows.laid_strconv_ErrSyntax) (by simp[UK])) (g:=4) (t:=70) (by kernel_rfl) (by kernel_rfl) Tryz.underlying70
 ·exact OE (Lib.laidMet.reads h (n:= "strconv.ErrRange") (d:=Rows.laid_strconv_ErrRange) (by simp[UK])) (g:=5) (t:=70) (by kernel_rfl) (by kernel_rfl) Tryz.underlying70
noncomputable def low:Nat:=(World.holding Tryz.prog default ⟨#[],#[],[]⟩).heap.size
def rngS:List UInt8:=[118,97,108,117,101,32,111,117,116,32,111,102,32,114,97,110,103,101]
def synS:List UInt8:=[105,110,118,97,108,105,100,32,115,121,110,116,97,120]
def accZ:List Nat:=[128,191,160,191,128,159,144,191,128,143]++List.replicate 22 0
noncomputable def putAt(h:Array Obj)(g:Nat)(cs:List Value):Array Obj:=h.modify g fun
 |.cells _ t frozen=>.cells ⟨cs⟩ t frozen
 |o=>o
noncomputable def tabWorld(os:Os):World:=
 let w0:=World.holding Tryz.prog os ⟨#[.cells #[str rngS] 279,.cells #[str synS] 279],#[],[]⟩
 {w0 with heap:=putAt (putAt (putAt (putAt (putAt (putAt (putAt w0.heap 1 (Lib.deBruijn32tab.map fun(z:Nat)=>Value.int .u8 z)) 2 (Lib.deBruijn64tab.map fun(z:Nat)=>Value.int .u8 z)) 3 (Lib.pow10Tab.map fun(z:Int)=>Value.int .u64 z)) 5 [.iface 277 (.pointer (some ⟨low,0,none⟩))]) 4 [.iface 277 (.pointer (some ⟨low+1,0,none⟩))]) 6 (Go.Pinned.utf8FirstZ.map fun(z:Nat)=>Value.int .u8 z)) 7 (accZ.map fun(z:Nat)=>Value.int .u8 z)}
theorem uP(os:Os)(args:Array Value):Xt ((tabWorld os).forCall (fun _ _=>0) ⟨#[],args,[]⟩).memory:=
 laidMet_of_run' 8 (by kernel_rfl) (by kernel_rfl)
theorem SK{C:Cx}{Wp:World->Prop}(hC:P8 C Wp){K:Checked}(hP:C.P=K.prog){f d e:Nat}{fn:Func}{s:ChangeSpec}{t4:TypeId}{sh:List (Bool×List CK)}(own:ownKnob K.prog.godebug=none)(noInit:K.prog.inits.idxOf? f=none)(hfn:K.prog.funcs[f]? =some fn)(laid:laidOutB K.prog=true)
  (hall:(fn.params.toList.all fun t=>K.prog.readableRec t&&decide (t<K.prog.types.size))=true) (hres:fn.resultTypes= #[t4]) (h4:K.prog.underlying t4=some .bool) (hvars:s.vars=[])
  (hs:∀(H:Type)(ds:List (DataW H)),ds.length=fn.params.size->s.fn H ds={results:=[.lit (.bool true)],args:=ds}) (hsh:shapes K.prog d fn.params.toList=some sh)
  (hev:∀Ds,MK sh Ds->BZ C e f Ds=some [.v (.bool true)])
  {conds:List PathCond} {os:Os} (started:os.Started) {H:Type} {enc:TypeId×Value->H} {X:World->Prop} (hX:∀w w':World,w.heap=w'.heap->X w->X w') (hXW:∀w,w.ShapedOpen K.prog->X w->Wp w)
  (wit:∃(w:World)(tape:Tape)(i:Input),w.os=os∧(w.forCall tape i).Shaped K.prog∧i.vars=[]∧Input.okWide K.prog (w.forCall tape i) .any w.heap.size f i∧
   ((s.pre enc K.prog fn conds false (w.forCall tape i).memory i.args∧X (w.forCall tape i).memory)∧sizedMet enc K.prog fn (OpenSpec.ofChange s) false (w.forCall tape i).memory i.args)∧({}:Assume).holds K.prog (lone (Frame.enter K.prog f i.args .normal) [] (w.forCall tape i))):
  ReturnsInHanded {} K os f .any (fun w args=>(s.pre enc K.prog fn conds false w args∧X w)∧sizedMet enc K.prog fn (OpenSpec.ofChange s) false w args) (s.post enc K.prog fn false true false false):=by
 refine returnsInHanded_of_calls own started noInit wit fun w tape i _ hso _ hok hpre _=>?_;obtain⟨_,_,_,fn',hfn',_,_,_,_,hval⟩:=hok;obtain rfl:=Option.some.inj (hfn'.symm.trans hfn);obtain⟨⟨⟨ds,gs,before,hw,_⟩,hx⟩,_⟩:=hpre;have hx':X (w.forCall tape i):=hX (w.forCall tape i).memory (w.forCall tape i) rfl hx;refine(Qb (C:=C) hP laid hall hres h4 hvars hs hsh hev (hC _ (hXW _ hso hx')) hval (DataW.Whole.of_heap (w':=w.forCall tape i) (by rfl) hw)).mono fun e W' hp=>?_;obtain⟨v,rfl,hp⟩:=hp;exact ChangeSpec.post_blind hp
theorem zW{n:Int}(h:(Lit.int .u8 n).wf=true):0<=n∧n<=255:=by
 have:=wf8 h;simp only[A2,A3]at this;exact this
theorem LW(os:Os)(started:os.Started)(H:Type)(enc:TypeId×Value->H):
  ReturnsInHanded {} Tryz.checked os 4 .any (fun w args=>(Rows.printBackSpec.pre enc Tryz.prog Tryz.f4 Rows.printBackRow.domain false w args∧Xt w)∧sizedMet enc Tryz.prog Tryz.f4 (OpenSpec.ofChange Rows.printBackSpec) false w args) (Rows.printBackSpec.post enc Tryz.prog Tryz.f4 false true false false):=
 SK (C:=CBX) (Wp:=Wd) Ad4 (K:=Tryz.checked) rfl (f:=4) (d:=8) (e:=6) (fn:=Tryz.f4) (t4:=4) (sh:=[(true,[.int .u8,.slice [.int .i64,.slice [.int .i64],.slice [.int .i64]],.slice [.slice [.int .i64,.int .i64,.int .i64,.int .i64]],.int .u8,.slice [.slice [.int .i64,.int .i64]],.slice [.slice [.int .i64]],.slice [.int .i64],.slice [.slice [.int .i64]],.int .i64,.slice [.int .i64],.slice [.int .i64],.int .i64,.slice [.int .i64],.slice [.int .i64,.int .i64,.int .i64],.int .u8]),(false,[.str])]) own (by kernel_rfl) Tryz.func4 laidOut (by kernel_rfl) (by kernel_rfl) Tryz.underlying4 rfl
  (fun H ds h=>by
   have h:ds.length=2:=h
   match ds,h with
   |[d1,d2],_=>rfl)
  (by kernel_rfl)
  (fun Ds h=>by
   cases h with
   |agg a h=>
   cases a with
   |cons c a=>
   cases c with
   |int w_k=>
   cases a with
   |cons c a=>
   cases c with
   |slice w_ca=>
   cases a with
   |cons c a=>
   cases c with
   |slice w_pi=>
   cases a with
   |cons c a=>
   cases c with
   |int w_pc=>
   cases a with
   |cons c a=>
   cases c with
   |slice w_wo=>
   cases a with
   |cons c a=>
   cases c with
   |slice w_gv=>
   cases a with
   |cons c a=>
   cases c with
   |slice w_aa=>
   cases a with
   |cons c a=>
   cases c with
   |slice w_fv=>
   cases a with
   |cons c a=>
   cases c with
   |int w_rr=>
   cases a with
   |cons c a=>
   cases c with
   |slice w_lr=>
   cases a with
   |cons c a=>
   cases c with
   |slice w_lp=>
   cases a with
   |cons c a=>
   cases c with
   |int w_ld=>
   cases a with
   |cons c a=>
   cases c with
   |slice w_ba=>
   cases a with
   |cons c a=>
   cases c with
   |slice w_pa=>
   cases a with
   |cons c a=>
   cases c with
   |int w_cl=>
   cases a;cases h with
   |one c h=>
   cases c with
   |str w1_0=>
   cases h;exact ZA (x:=⟨_,_,_,_,_,_,_,_,_,_,_,_,_,_,_⟩) ⟨w_ca,w_pi,w_wo,w_gv,w_aa,w_fv,w_lr,w_lp,w_ba,w_pa,A4 (wf64.1 w_rr),A4 (wf64.1 w_ld),zW w_pc,zW w_cl⟩ _)
  started (X:=Xt) (fun _ _ hh h=>laidMet.of_heap hh h) (fun _ hs h=>Xt.wt hs h)
  (ChangeSpec.witness_at (enc:=enc) (C:=Tryz.checked) (os:=os) (X:=fun w _=>Xt w) false (tabWorld os) #[.agg #[.int .u8 0,.slice none 0 0,.slice none 0 0,.int .u8 0,.slice none 0 0,.slice none 0 0,.slice none 0 0,.slice none 0 0,.int .i64 0,.slice none 0 0,.slice none 0 0,.int .i64 0,.slice none 0 0,.slice none 0 0,.int .u8 0],.string .empty] 8 rfl (by kernel_rfl) (by kernel_rfl) (by kernel_rfl) (by kernel_rfl) (by kernel_rfl) (uP os _))
theorem P6:Rows.printBackRow.holds Tryz.pinned (OpenSpec.ofChange Rows.printBackSpec):=
 OpenClaim.holds_of_wide 4 Tryz.f4 rfl rfl rfl rfl rfl rfl rfl ⟨rfl,rfl,rfl,rfl,rfl⟩ rfl rfl rfl rfl rfl (by kernel_rfl) Tryz.func4 (by kernel_rfl)
  (AD (by kernel_rfl)) (by unfold Func.isWrapper;first|(rw[AM (by decide+kernel)];kernel_rfl)|(rw[AL (by decide+kernel)];exact⟨rfl,rfl⟩))
  (fun os started H enc _=>LW os started H enc)
theorem printBack_card:Rows.PrintBackCardSaid:=
 Claim7.holds_tied_plain_at .later [] [.data,.data,.data,.data,.sentinel,.sentinel,.pinned] true (true,"287371002121231fd94f9a596d3a08228ee8f62210e728cdd3bd90be4eb15e0c") true
  P6 (fun _ h=>by cases h) (by kernel_rfl) (fun _ h=>by cases h) printBack_row_tie rfl ⟨rfl,rfl⟩ (by kernel_rfl) rfl
  (fun f fn hf hfn=>by
   obtain rfl:f=4:=Option.some.inj ((show Tryz.prog.funcNamed Rows.printBackRow.func=some 4 by kernel_rfl).symm.trans hf)|>.symm;obtain rfl:fn=Tryz.f4:=(Option.some.inj (Tryz.func4.symm.trans hfn)).symm;refine⟨by kernel_rfl,fun j t ht=>?_⟩;have hall:(Tryz.f4.params.toList.all fun t=> !Tryz.prog.wantsStandIn t)=true:=by kernel_rfl
   have hm:t∈Tryz.f4.params.toList:=List.mem_of_getElem? (by rw[Array.getElem?_toList];exact ht);have hq:Tryz.prog.wantsStandIn t=false:=by simpa using List.all_eq_true.1 hall t hm
   exact hq)
  (by kernel_rfl)
end Go.Proofs.YtnljjjghpgdmoaaGreatDoor

/- Part of a proof of a statement of this seat. No conditions. -/
import Derived.Test.YtkcnkimndhgkgaaGreatDoorXap
import Derived.Shelf.Spec.BitsCarry
import Derived.Shelf.Spec.SlicesGrow
set_option linter.all false
namespace Go.Proofs.YtkcnkimndhgkgaaGreatDoor
open Go.Ev Go.Lib Go.RowKit
set_option maxRecDepth 100000
def FcuV(o r:ByteArray->ByteArray):FD
 |[.v (.string s),.v (.string p)]=>some (decide (s.size<4294967281)&&(p.toList==sNl.toList),[.v (.string (o s)),.v (.string (r s)),.v (.bool (Lib.cut (by_ s) (by_ p)).2.2)])
 |_=>none
structure Pa where
 rest:ByteArray
 p:Px
def t_pr(s:ByteArray)(k:Int)(can pin:Nat)(pc:Int)(won gvn aan fvn:Nat)(rr:Int)(lrn lpo lpn:Nat)(ld:Int)(ban pan:Nat)(cl:Int)(ca pi wo gv aa fv lr lp ba pa:Row):St:=⟨[.string s]++us 1++[.pointer (some ⟨0,0,some 0⟩),i64 12]++us 3++[.pointer (some ⟨1,0,some 0⟩)]++us 58,[[]],[some (.box [.int .u8 0,.slice none 0 0,.slice none 0 0,.int .u8 0,.slice none 0 0,.slice none 0 0,.slice none 0 0,.slice none 0 0,i64 0,.slice none 0 0,.slice none 0 0,i64 0,.slice none 0 0,.slice none 0 0,.int .u8 0]),some (.box [.int .u8 k,S_ 2 0 can,S_ 3 0 pin,.int .u8 pc,S_ 4 0 won,S_ 5 0 gvn,S_ 6 0 aan,S_ 7 0 fvn,i64 rr,S_ 8 0 lrn,S_ 9 lpo lpn,i64 ld,S_ 10 0 ban,S_ 11 0 pan,.int .u8 cl]),some (.deep [.int .i64,.slice [.int .i64],.slice [.int .i64]] ca none),some (.deep [.slice [.int .i64,.int .i64,.int .i64,.int .i64]] pi none),some (.deep [.slice [.int .i64,.int .i64]] wo none),some (.deep [.slice [.int .i64]] gv none),some (.row [.int .i64] true aa),some (.deep [.slice [.int .i64]] fv none),some (.row [.int .i64] true lr),some (.row [.int .i64] true lp),some (.row [.int .i64] true ba),some (.row [.int .i64,.int .i64,.int .i64] true pa)]⟩
def t_px(s:ByteArray)(k:Int)(can pin:Nat)(pc:Int)(won gvn aan fvn:Nat)(rr:Int)(lrn lpo lpn:Nat)(ld:Int)(ban pan:Nat)(cl:Int)(ca pi wo gv aa fv lr lp ba pa:Row):St:=⟨[.string s]++us 1++[.pointer (some ⟨0,0,some 0⟩)]++us 4++[.pointer (some ⟨1,0,some 0⟩)]++us 58,[[]],[some (.box [.int .u8 0,.slice none 0 0,.slice none 0 0,.int .u8 0,.slice none 0 0,.slice none 0 0,.slice none 0 0,.slice none 0 0,i64 0,.slice none 0 0,.slice none 0 0,i64 0,.slice none 0 0,.slice none 0 0,.int .u8 0]),some (.box [.int .u8 k,S_ 2 0 can,S_ 3 0 pin,.int .u8 pc,S_ 4 0 won,S_ 5 0 gvn,S_ 6 0 aan,S_ 7 0 fvn,i64 rr,S_ 8 0 lrn,S_ 9 lpo lpn,i64 ld,S_ 10 0 ban,S_ 11 0 pan,.int .u8 cl]),some (.deep [.int .i64,.slice [.int .i64],.slice [.int .i64]] ca none),some (.deep [.slice [.int .i64,.int .i64,.int .i64,.int .i64]] pi none),some (.deep [.slice [.int .i64,.int .i64]] wo none),some (.deep [.slice [.int .i64]] gv none),some (.row [.int .i64] true aa),some (.deep [.slice [.int .i64]] fv none),some (.row [.int .i64] true lr),some (.row [.int .i64] true lp),some (.row [.int .i64] true ba),some (.row [.int .i64,.int .i64,.int .i64] true pa)]⟩
def u_pr(s:ByteArray)(p:Px):St:=t_pr s p.k p.ca.n p.pi.n p.pc p.wo.n p.gv.n p.aa.n p.fv.n p.rr p.lr.n p.lpo p.lpn p.ld p.ba.n p.pa.n p.cl p.ca p.pi p.wo p.gv p.aa p.fv p.lr p.lp p.ba p.pa
def u_px(s:ByteArray)(p:Px):St:=t_px s p.k p.ca.n p.pi.n p.pc p.wo.n p.gv.n p.aa.n p.fv.n p.rr p.lr.n p.lpo p.lpn p.ld p.ba.n p.pa.n p.cl p.ca p.pi p.wo p.gv p.aa p.fv p.lr p.lp p.ba p.pa
def SzP(p:Px)(j:Nat):Prop:=p.ca.n<=j∧p.pi.n<=j∧p.wo.n<=j∧p.gv.n<=j∧p.fv.n<=j∧p.pa.n<=j
instance(p:Px)(j:Nat):Decidable (SzP p j):=by unfold SzP;infer_instance
theorem SzP.rd{p:Px}{j:Nat}(h:SzP p j)(w:List UInt8)(r:Row):SzP (rdXw w r p).2 (j+1):=by
 obtain⟨h1,h2,h3,h4,h5,h6⟩:=h;have g1:p.ca.n<=j+1:=by omega
 have g2:p.pi.n<=j+1:=by omega
 have g3:p.wo.n<=j+1:=by omega
 have g4:p.gv.n<=j+1:=by omega
 have g5:p.fv.n<=j+1:=by omega
 have g6:p.pa.n<=j+1:=by omega
 have same:SzP p (j+1):=⟨g1,g2,g3,g4,g5,g6⟩;have bc:∀(b:Bool)(x z:Bool×Px),SzP x.2 (j+1)->SzP z.2 (j+1)->SzP (bif b then x else z).2 (j+1):=fun b x z hx hz=>by cases b<;>assumption
 have bp:∀(b:Bool)(x z:Px),SzP x (j+1)->SzP z (j+1)->SzP (bif b then x else z) (j+1):=fun b x z hx hz=>by cases b<;>assumption
 unfold rdXw;refine bc _ _ _ (bc _ _ _ ⟨g1,Nat.succ_le_succ h2,g3,g4,g5,g6⟩ same) (bc _ _ _ (bc _ _ _ ⟨g1,g2,Nat.succ_le_succ h3,g4,g5,g6⟩ same) (bc _ _ _ same (bc _ _ _ (bc _ _ _ ⟨Nat.succ_le_succ h1,g2,g3,g4,g5,g6⟩ same)
  (bc _ _ _ (bp _ _ _ ⟨g1,g2,g3,Nat.succ_le_succ h4,g5,g6⟩ ⟨g1,g2,g3,g4,Nat.succ_le_succ h5,g6⟩) (bc _ _ _ same (bc _ _ _ (bc _ _ _ same same) (bc _ _ _ same (bc _ _ _ (bc _ _ _ same same) (bc _ _ _ same (bc _ _ _ (bc _ _ _ ⟨g1,g2,g3,g4,g5,Nat.succ_le_succ h6⟩ same) (bc _ _ _ (bc _ _ _ (bp _ _ _ same same) same) same)))))))))))
theorem pieces_len(k:UInt8):∀l:List UInt8,(Ln.pieces k l).length<=l.length+1∧∀p∈Ln.pieces k l,p.length<=l.length
 |[]=>by
  rw[Ln.pieces_none k [] (fun c hc=>by cases hc)];exact⟨AC _,fun p hp=>by simp at hp;rw[hp];exact AC _⟩
 |c::l=>by
  obtain⟨h1,h2⟩:=pieces_len k l;by_cases hc:c=k
  ·subst hc;rw[show c::l=[]++c::l from rfl,Ln.pieces_app c [] l (fun x hx=>by cases hx)];refine⟨by simp;omega,fun p hp=>?_⟩;rcases A8.1 hp with rfl|hp
   ·simp
   ·have:=h2 p hp;simp;omega
  ·have e:Ln.pieces k (c::l)=(match Ln.pieces k l with|[]=>[[c]]|p::ps=>(c::p)::ps):=by
    rw[Ln.pieces_sp k (c::l),Ln.pieces_sp k l];have es:Ln.sp k (c::l)=(c::(Ln.sp k l).1,(Ln.sp k l).2):=by
     show(if c=k then _ else _)=_;rw[AL hc]
    rw[es]
   have hne:=Ln.pieces_ne k l;rw[e];cases hp:Ln.pieces k l with
   |nil=>exact absurd hp hne
   |cons p ps=>
    rw[hp]at h1 h2;refine⟨by simp at h1⊢;omega,fun q hq=>?_⟩;rcases A8.1 hq with rfl|hq
    ·have:=h2 p (List.mem_cons_self ..);simp;omega
    ·have:=h2 q (List.mem_cons_of_mem _ hq);simp;omega
theorem sz_line{s:ByteArray}(h:s.size<=100000):szB (tlR (spR s))=true:=by
 have h1:=Ln.splS_pieces 32 s.size s (AC _);obtain⟨p1,p2⟩:=pieces_len 32 (by_ s);have hs:(by_ s).length=s.size:=rfl;have h2:(splS s sSpc).length=(Ln.pieces 32 (by_ s)).length:=by
  rw[<-h1,List.length_map];rfl
 have hn:(spR s).n=(splS s sSpc).length:=rfl;have ht:(tlR (spR s)).n=(spR s).n-1:=winOf_n;refine szB_of (by omega) fun i hi=>?_;have e:(tlR (spR s)).S i 0=(splS s sSpc).getD (1+i) .empty:=winOf_S (spR s) 1 ((spR s).n-1) i 0;rw[e];have hl:1+i<(splS s sSpc).length:=by omega
 have hm:(splS s sSpc).getD (1+i) .empty∈splS s sSpc:=by
  rw[List.getD_eq_getElem?_getD,AK hl];exact List.getElem_mem hl
 have h3:by_ ((splS s sSpc).getD (1+i) .empty)∈Ln.pieces 32 (by_ s):=by
  rw[<-h1];exact List.mem_map_of_mem (f:=by_) hm
 have h4:=p2 _ h3;have h5:(by_ ((splS s sSpc).getD (1+i) .empty)).length=((splS s sSpc).getD (1+i) .empty).size:=rfl;omega
theorem rdC_of{s:ByteArray}{p:Px}{j:Nat}(hs:s.size<=100000)(hp:SzP p j)(hj:j<=1000000):rdC s p=true:=by
 obtain⟨h1,h2,h3,h4,h5,h6⟩:=hp;exact Bool.and_eq_true_iff.2 ⟨A4 ⟨by omega,by omega,by omega,by omega,by omega,by omega,by omega⟩,sz_line hs⟩
def p_lpl:PSt:={τ:=[.v (.str)]++pu 1++[.v (.c (.pointer (some ⟨0,0,some 0⟩)))]++pu 2++[.v (.str)]++pu 1++[.v (.c (.pointer (some ⟨1,0,some 0⟩)))]++pu 58,saved:=[[]],mem:=[.box [.v (.c (.int .u8 0)),.v (.c (.slice none 0 0)),.v (.c (.slice none 0 0)),.v (.c (.int .u8 0)),.v (.c (.slice none 0 0)),.v (.c (.slice none 0 0)),.v (.c (.slice none 0 0)),.v (.c (.slice none 0 0)),.v (.c (.int .i64 0)),.v (.c (.slice none 0 0)),.v (.c (.slice none 0 0)),.v (.c (.int .i64 0)),.v (.c (.slice none 0 0)),.v (.c (.slice none 0 0)),.v (.c (.int .u8 0))],.box [.v (.int .u8),.v (.sl 2),.v (.sl 3),.v (.int .u8),.v (.sl 4),.v (.sl 5),.v (.sl 6),.v (.sl 7),.v (.int .i64),.v (.sl 8),.v (.slw 9),.v (.int .i64),.v (.sl 10),.v (.sl 11),.v (.int .u8)],.deep [.int .i64,.slice [.int .i64],.slice [.int .i64]],.deep [.slice [.int .i64,.int .i64,.int .i64,.int .i64]],.deep [.slice [.int .i64,.int .i64]],.deep [.slice [.int .i64]],.row [.int .i64] true,.deep [.slice [.int .i64]],.row [.int .i64] true,.row [.int .i64] true,.row [.int .i64] true,.row [.int .i64,.int .i64,.int .i64] true]}
structure A_lpl where
 s:ByteArray
 rest:ByteArray
 k:Int
 can:Nat
 pin:Nat
 pc:Int
 won:Nat
 gvn:Nat
 aan:Nat
 fvn:Nat
 rr:Int
 lrn:Nat
 lpo:Nat
 lpn:Nat
 ld:Int
 ban:Nat
 pan:Nat
 cl:Int
 ca:Row
 pi:Row
 wo:Row
 gv:Row
 aa:Row
 fv:Row
 lr:Row
 lp:Row
 ba:Row
 pa:Row
def d_lpl(its:List It):Option A_lpl:=match its with|[.s s,.s rest,.i k,.n can,.n pin,.i pc,.n won,.n gvn,.n aan,.n fvn,.i rr,.n lrn,.n lpo,.n lpn,.i ld,.n ban,.n pan,.i cl,.r ca,.r pi,.r wo,.r gv,.r aa,.r fv,.r lr,.r lp,.r ba,.r pa]=>some ⟨s,rest,k,can,pin,pc,won,gvn,aan,fvn,rr,lrn,lpo,lpn,ld,ban,pan,cl,ca,pi,wo,gv,aa,fv,lr,lp,ba,pa⟩|_=>none
def c_lpl(x:A_lpl):Bool:=x.can=x.ca.n∧x.pin=x.pi.n∧x.won=x.wo.n∧x.gvn=x.gv.n∧x.aan=x.aa.n∧x.fvn=x.fv.n∧x.lrn=x.lr.n∧x.ban=x.ba.n∧x.pan=x.pa.n∧x.rest.size<=100000∧SzP ⟨x.k,x.ca,x.pi,x.pc,x.wo,x.gv,x.aa,x.fv,x.rr,x.lr,x.lp,x.lpo,x.lpn,x.ld,x.ba,x.pa,x.cl⟩ 0
def c_lpl_iff{x:A_lpl}:=@ciff _ c_lpl _ _ rfl x
def lpl:RunL A_lpl (Pa):=⟨26,11,[0,2,5,7,2193611276810007,137081043860007,535477160007,33471410007,125500007,33471430007,125530007,125540007,125560007,32156290007],[0,2,3,7],p_lpl,d_lpl,fun x j a=>[.s x.s,.s a.rest,.i a.p.k,.n a.p.ca.n,.n a.p.pi.n,.i a.p.pc,.n a.p.wo.n,.n a.p.gv.n,.n a.p.aa.n,.n a.p.fv.n,.i a.p.rr,.n a.p.lr.n,.n a.p.lpo,.n a.p.lpn,.i a.p.ld,.n a.p.ba.n,.n a.p.pa.n,.i a.p.cl,.r a.p.ca,.r a.p.pi,.r a.p.wo,.r a.p.gv,.r a.p.aa,.r a.p.fv,.r a.p.lr,.r a.p.lp,.r a.p.ba,.r a.p.pa],fun x=>Ln.lnN x.rest,c_lpl,fun x=>⟨x.rest,⟨x.k,x.ca,x.pi,x.pc,x.wo,x.gv,x.aa,x.fv,x.rr,x.lr,x.lp,x.lpo,x.lpn,x.ld,x.ba,x.pa,x.cl⟩⟩,fun x j a=> !(rdX (Ln.oneB a.rest) a.p).1,fun x j a=>⟨Ln.restB a.rest,(rdX (Ln.oneB a.rest) a.p).2⟩,fun x j a K=>K .ret (u_pr x.s (rdX (Ln.oneB a.rest) a.p).2),fun x a K=>K (.exit 2) (u_px x.s a.p)⟩
noncomputable def Cpa(LL:List LoopC)(oB rB:ByteArray->ByteArray)(rc:ByteArray->Px->Bool)(rx:ByteArray->Px->Bool×Px)(tc:Dc->Bool)(tS:Dc->ByteArray)(tE:Dc->Int):Cx:=mkCx Tryz.prog fns [(61,FcuV oB rB),(23,FteV tc tS tE)] LL [] [(62,FrdV rc rx)]
theorem r_lpl(LL:List LoopC)(oB rB:ByteArray->ByteArray)(rc:ByteArray->Px->Bool)(rx:ByteArray->Px->Bool×Px)(tc:Dc->Bool)(tS:Dc->ByteArray)(tE:Dc->Int)(R:St->OD)(K:X->St->OD)(q:Nat)(s rest:ByteArray)(k:Int)(can pin:Nat)(pc:Int)(won gvn aan fvn:Nat)(rr:Int)(lrn lpo lpn:Nat)(ld:Int)(ban pan:Nat)(cl:Int)(ca pi wo gv aa fv lr lp ba pa:Row):bodyOf (Cpa LL oB rB rc rx tc tS tE) 26 11 q (bst p_lpl [.s s,.s rest,.i k,.n can,.n pin,.i pc,.n won,.n gvn,.n aan,.n fvn,.i rr,.n lrn,.n lpo,.n lpn,.i ld,.n ban,.n pan,.i cl,.r ca,.r pi,.r wo,.r gv,.r aa,.r fv,.r lr,.r lp,.r ba,.r pa]) (rnd [0,2,5,7,2193611276810007,137081043860007,535477160007,33471410007,125500007,33471430007,125530007,125540007,125560007,32156290007] (some [0,2,3,7]) R K)=br (!rest.toList=={data:={toList:=[]:Array UInt8}:ByteArray}.toList) (br (rest.size<4294967281&&{data:={toList:=[10]:Array UInt8}:ByteArray}.toList==sNl.toList) (br (decide (can=ca.n∧pin=pi.n∧won=wo.n∧gvn=gv.n∧aan=aa.n∧fvn=fv.n∧lrn=lr.n∧ban=ba.n∧pan=pa.n)&&rc (oB rest) (⟨k,ca,pi,pc,wo,gv,aa,fv,rr,lr,lp,lpo,lpn,ld,ba,pa,cl⟩:Px)) (br (!(rx (oB rest) (⟨k,ca,pi,pc,wo,gv,aa,fv,rr,lr,lp,lpo,lpn,ld,ba,pa,cl⟩:Px)).1) (K .ret (t_pr s ((rx (oB rest) (⟨k,ca,pi,pc,wo,gv,aa,fv,rr,lr,lp,lpo,lpn,ld,ba,pa,cl⟩:Px)).2.k) ((rx (oB rest) (⟨k,ca,pi,pc,wo,gv,aa,fv,rr,lr,lp,lpo,lpn,ld,ba,pa,cl⟩:Px)).2.ca.n) ((rx (oB rest) (⟨k,ca,pi,pc,wo,gv,aa,fv,rr,lr,lp,lpo,lpn,ld,ba,pa,cl⟩:Px)).2.pi.n) ((rx (oB rest) (⟨k,ca,pi,pc,wo,gv,aa,fv,rr,lr,lp,lpo,lpn,ld,ba,pa,cl⟩:Px)).2.pc) ((rx (oB rest) (⟨k,ca,pi,pc,wo,gv,aa,fv,rr,lr,lp,lpo,lpn,ld,ba,pa,cl⟩:Px)).2.wo.n) ((rx (oB rest) (⟨k,ca,pi,pc,wo,gv,aa,fv,rr,lr,lp,lpo,lpn,ld,ba,pa,cl⟩:Px)).2.gv.n) ((rx (oB rest) (⟨k,ca,pi,pc,wo,gv,aa,fv,rr,lr,lp,lpo,lpn,ld,ba,pa,cl⟩:Px)).2.aa.n) ((rx (oB rest) (⟨k,ca,pi,pc,wo,gv,aa,fv,rr,lr,lp,lpo,lpn,ld,ba,pa,cl⟩:Px)).2.fv.n) ((rx (oB rest) (⟨k,ca,pi,pc,wo,gv,aa,fv,rr,lr,lp,lpo,lpn,ld,ba,pa,cl⟩:Px)).2.rr) ((rx (oB rest) (⟨k,ca,pi,pc,wo,gv,aa,fv,rr,lr,lp,lpo,lpn,ld,ba,pa,cl⟩:Px)).2.lr.n) ((rx (oB rest) (⟨k,ca,pi,pc,wo,gv,aa,fv,rr,lr,lp,lpo,lpn,ld,ba,pa,cl⟩:Px)).2.lpo) ((rx (oB rest) (⟨k,ca,pi,pc,wo,gv,aa,fv,rr,lr,lp,lpo,lpn,ld,ba,pa,cl⟩:Px)).2.lpn) ((rx (oB rest) (⟨k,ca,pi,pc,wo,gv,aa,fv,rr,lr,lp,lpo,lpn,ld,ba,pa,cl⟩:Px)).2.ld) ((rx (oB rest) (⟨k,ca,pi,pc,wo,gv,aa,fv,rr,lr,lp,lpo,lpn,ld,ba,pa,cl⟩:Px)).2.ba.n) ((rx (oB rest) (⟨k,ca,pi,pc,wo,gv,aa,fv,rr,lr,lp,lpo,lpn,ld,ba,pa,cl⟩:Px)).2.pa.n) ((rx (oB rest) (⟨k,ca,pi,pc,wo,gv,aa,fv,rr,lr,lp,lpo,lpn,ld,ba,pa,cl⟩:Px)).2.cl) ((rx (oB rest) (⟨k,ca,pi,pc,wo,gv,aa,fv,rr,lr,lp,lpo,lpn,ld,ba,pa,cl⟩:Px)).2.ca) ((rx (oB rest) (⟨k,ca,pi,pc,wo,gv,aa,fv,rr,lr,lp,lpo,lpn,ld,ba,pa,cl⟩:Px)).2.pi) ((rx (oB rest) (⟨k,ca,pi,pc,wo,gv,aa,fv,rr,lr,lp,lpo,lpn,ld,ba,pa,cl⟩:Px)).2.wo) ((rx (oB rest) (⟨k,ca,pi,pc,wo,gv,aa,fv,rr,lr,lp,lpo,lpn,ld,ba,pa,cl⟩:Px)).2.gv) ((rx (oB rest) (⟨k,ca,pi,pc,wo,gv,aa,fv,rr,lr,lp,lpo,lpn,ld,ba,pa,cl⟩:Px)).2.aa) ((rx (oB rest) (⟨k,ca,pi,pc,wo,gv,aa,fv,rr,lr,lp,lpo,lpn,ld,ba,pa,cl⟩:Px)).2.fv) ((rx (oB rest) (⟨k,ca,pi,pc,wo,gv,aa,fv,rr,lr,lp,lpo,lpn,ld,ba,pa,cl⟩:Px)).2.lr) ((rx (oB rest) (⟨k,ca,pi,pc,wo,gv,aa,fv,rr,lr,lp,lpo,lpn,ld,ba,pa,cl⟩:Px)).2.lp) ((rx (oB rest) (⟨k,ca,pi,pc,wo,gv,aa,fv,rr,lr,lp,lpo,lpn,ld,ba,pa,cl⟩:Px)).2.ba) ((rx (oB rest) (⟨k,ca,pi,pc,wo,gv,aa,fv,rr,lr,lp,lpo,lpn,ld,ba,pa,cl⟩:Px)).2.pa))) (R (bst p_lpl [.s s,.s (rB rest),.i ((rx (oB rest) (⟨k,ca,pi,pc,wo,gv,aa,fv,rr,lr,lp,lpo,lpn,ld,ba,pa,cl⟩:Px)).2.k),.n ((rx (oB rest) (⟨k,ca,pi,pc,wo,gv,aa,fv,rr,lr,lp,lpo,lpn,ld,ba,pa,cl⟩:Px)).2.ca.n),.n ((rx (oB rest) (⟨k,ca,pi,pc,wo,gv,aa,fv,rr,lr,lp,lpo,lpn,ld,ba,pa,cl⟩:Px)).2.pi.n),.i ((rx (oB rest) (⟨k,ca,pi,pc,wo,gv,aa,fv,rr,lr,lp,lpo,lpn,ld,ba,pa,cl⟩:Px)).2.pc),.n ((rx (oB rest) (⟨k,ca,pi,pc,wo,gv,aa,fv,rr,lr,lp,lpo,lpn,ld,ba,pa,cl⟩:Px)).2.wo.n),.n ((rx (oB rest) (⟨k,ca,pi,pc,wo,gv,aa,fv,rr,lr,lp,lpo,lpn,ld,ba,pa,cl⟩:Px)).2.gv.n),.n ((rx (oB rest) (⟨k,ca,pi,pc,wo,gv,aa,fv,rr,lr,lp,lpo,lpn,ld,ba,pa,cl⟩:Px)).2.aa.n),.n ((rx (oB rest) (⟨k,ca,pi,pc,wo,gv,aa,fv,rr,lr,lp,lpo,lpn,ld,ba,pa,cl⟩:Px)).2.fv.n),.i ((rx (oB rest) (⟨k,ca,pi,pc,wo,gv,aa,fv,rr,lr,lp,lpo,lpn,ld,ba,pa,cl⟩:Px)).2.rr),.n ((rx (oB rest) (⟨k,ca,pi,pc,wo,gv,aa,fv,rr,lr,lp,lpo,lpn,ld,ba,pa,cl⟩:Px)).2.lr.n),.n ((rx (oB rest) (⟨k,ca,pi,pc,wo,gv,aa,fv,rr,lr,lp,lpo,lpn,ld,ba,pa,cl⟩:Px)).2.lpo),.n ((rx (oB rest) (⟨k,ca,pi,pc,wo,gv,aa,fv,rr,lr,lp,lpo,lpn,ld,ba,pa,cl⟩:Px)).2.lpn),.i ((rx (oB rest) (⟨k,ca,pi,pc,wo,gv,aa,fv,rr,lr,lp,lpo,lpn,ld,ba,pa,cl⟩:Px)).2.ld),.n ((rx (oB rest) (⟨k,ca,pi,pc,wo,gv,aa,fv,rr,lr,lp,lpo,lpn,ld,ba,pa,cl⟩:Px)).2.ba.n),.n ((rx (oB rest) (⟨k,ca,pi,pc,wo,gv,aa,fv,rr,lr,lp,lpo,lpn,ld,ba,pa,cl⟩:Px)).2.pa.n),.i ((rx (oB rest) (⟨k,ca,pi,pc,wo,gv,aa,fv,rr,lr,lp,lpo,lpn,ld,ba,pa,cl⟩:Px)).2.cl),.r ((rx (oB rest) (⟨k,ca,pi,pc,wo,gv,aa,fv,rr,lr,lp,lpo,lpn,ld,ba,pa,cl⟩:Px)).2.ca),.r ((rx (oB rest) (⟨k,ca,pi,pc,wo,gv,aa,fv,rr,lr,lp,lpo,lpn,ld,ba,pa,cl⟩:Px)).2.pi),.r ((rx (oB rest) (⟨k,ca,pi,pc,wo,gv,aa,fv,rr,lr,lp,lpo,lpn,ld,ba,pa,cl⟩:Px)).2.wo),.r ((rx (oB rest) (⟨k,ca,pi,pc,wo,gv,aa,fv,rr,lr,lp,lpo,lpn,ld,ba,pa,cl⟩:Px)).2.gv),.r ((rx (oB rest) (⟨k,ca,pi,pc,wo,gv,aa,fv,rr,lr,lp,lpo,lpn,ld,ba,pa,cl⟩:Px)).2.aa),.r ((rx (oB rest) (⟨k,ca,pi,pc,wo,gv,aa,fv,rr,lr,lp,lpo,lpn,ld,ba,pa,cl⟩:Px)).2.fv),.r ((rx (oB rest) (⟨k,ca,pi,pc,wo,gv,aa,fv,rr,lr,lp,lpo,lpn,ld,ba,pa,cl⟩:Px)).2.lr),.r ((rx (oB rest) (⟨k,ca,pi,pc,wo,gv,aa,fv,rr,lr,lp,lpo,lpn,ld,ba,pa,cl⟩:Px)).2.lp),.r ((rx (oB rest) (⟨k,ca,pi,pc,wo,gv,aa,fv,rr,lr,lp,lpo,lpn,ld,ba,pa,cl⟩:Px)).2.ba),.r ((rx (oB rest) (⟨k,ca,pi,pc,wo,gv,aa,fv,rr,lr,lp,lpo,lpn,ld,ba,pa,cl⟩:Px)).2.pa)]))) none) none) (K (.exit 2) (t_px s k can pin pc won gvn aan fvn rr lrn lpo lpn ld ban pan cl ca pi wo gv aa fv lr lp ba pa)):=by kernel_rfl
theorem ok_lpl(LL:List LoopC)(tc:Dc->Bool)(tS:Dc->ByteArray)(tE:Dc->Int):LoopOk (Cpa LL Ln.oneB Ln.restB rdC rdX tc tS tE) lpl.C:=lpl.ok ((fun x j a=>Ln.lnN a.rest+j=Ln.lnN x.rest∧a.rest.size<=x.rest.size∧SzP a.p j)) (by kernel_rfl)
 (fun its x h hc=>by
  replace h:d_lpl its=some x:=h;unfold d_lpl at h;split at h
  ·cases h;obtain⟨h1,h2,h3,h4,h5,h6,h7,h8,h9,h10,h11⟩:=c_lpl_iff.1 hc;dsimp only at h1 h2 h3 h4 h5 h6 h7 h8 h9;subst h1 h2 h3 h4 h5 h6 h7 h8 h9;rfl
  ·cases h)
 (fun x hc=>by have:=c_lpl_iff.1 hc;have:=Ln.lnN_le x.rest;show Ln.lnN x.rest<18446744073709551616;omega)
 (fun x hc=>by
  have g:=(c_lpl_iff.1 hc).2.2.2.2.2.2.2.2.2;exact⟨rfl,AC _,g.2⟩)
 (fun x j a hc hi hI hs=>by
  have hi':j<Ln.lnN x.rest:=hi;have hne:by_ a.rest≠[]:=fun hz=>by have:=Ln.lnN_nil hz;have:=hI.1;omega
  have e1:=Ln.lnN_rest hne;have e2:=Ln.rest_le a.rest;refine⟨?_,Nat.le_trans e2 hI.2.1,hI.2.2.rd _ _⟩;have:=hI.1;show Ln.lnN (Ln.restB a.rest)+(j+1)=_;omega)
 (fun q ⟨s,rest0,k0,can0,pin0,pc0,won0,gvn0,aan0,fvn0,rr0,lrn0,lpo0,lpn0,ld0,ban0,pan0,cl0,ca0,pi0,wo0,gv0,aa0,fv0,lr0,lp0,ba0,pa0⟩ j a hc hi hI R K=>by
  obtain⟨h1,h2,h3,h4,h5,h6,h7,h8,h9,h10,h11⟩:=c_lpl_iff.1 hc;dsimp only at*
  replace hi:j<Ln.lnN rest0:=hi;refine(r_lpl LL Ln.oneB Ln.restB rdC rdX tc tS tE R K q s ((a.rest)) ((a.p.k)) ((a.p.ca.n)) ((a.p.pi.n)) ((a.p.pc)) ((a.p.wo.n)) ((a.p.gv.n)) ((a.p.aa.n)) ((a.p.fv.n)) ((a.p.rr)) ((a.p.lr.n)) ((a.p.lpo)) ((a.p.lpn)) ((a.p.ld)) ((a.p.ba.n)) ((a.p.pa.n)) ((a.p.cl)) ((a.p.ca)) ((a.p.pi)) ((a.p.wo)) ((a.p.gv)) ((a.p.aa)) ((a.p.fv)) ((a.p.lr)) ((a.p.lp)) ((a.p.ba)) ((a.p.pa))).trans ?_;have hne:by_ a.rest≠[]:=fun hz=>by have:=Ln.lnN_nil hz;have:=hI.1;omega
  have hI2:a.rest.size<=rest0.size:=hI.2.1;have hln:=Ln.lnN_le rest0;have c1:(!a.rest.toList==({data:={toList:=[]:Array UInt8}:ByteArray}).toList)=true:=by
   rw[toList_by,toList_by,Bool.not_eq_true'];cases hb:by_ a.rest with
   |nil=>exact absurd hb hne
   |cons c l=>rfl
  have c2:(decide (a.rest.size<4294967281)&&({data:={toList:=[10]:Array UInt8}:ByteArray}).toList==sNl.toList)=true:=Bool.and_eq_true_iff.2 ⟨A4 (by omega),(beq_self_eq_true sNl.toList:(sNl.toList==sNl.toList)=true)⟩;refine br_t c1 (br_t c2 (br_t (Bool.and_eq_true_iff.2 ⟨A4 ⟨rfl,rfl,rfl,rfl,rfl,rfl,rfl,rfl,rfl⟩,rdC_of (s:=Ln.oneB a.rest) (p:=a.p) (by have:=Ln.one_size a.rest;omega) hI.2.2 (by omega)⟩) ?_));rfl)
 (fun q ⟨s,rest0,k0,can0,pin0,pc0,won0,gvn0,aan0,fvn0,rr0,lrn0,lpo0,lpn0,ld0,ban0,pan0,cl0,ca0,pi0,wo0,gv0,aa0,fv0,lr0,lp0,ba0,pa0⟩ a hc hI R K=>by
  obtain⟨h1,h2,h3,h4,h5,h6,h7,h8,h9,h10,h11⟩:=c_lpl_iff.1 hc;dsimp only at*
  refine(r_lpl LL Ln.oneB Ln.restB rdC rdX tc tS tE R K q s ((a.rest)) ((a.p.k)) ((a.p.ca.n)) ((a.p.pi.n)) ((a.p.pc)) ((a.p.wo.n)) ((a.p.gv.n)) ((a.p.aa.n)) ((a.p.fv.n)) ((a.p.rr)) ((a.p.lr.n)) ((a.p.lpo)) ((a.p.lpn)) ((a.p.ld)) ((a.p.ba.n)) ((a.p.pa.n)) ((a.p.cl)) ((a.p.ca)) ((a.p.pi)) ((a.p.wo)) ((a.p.gv)) ((a.p.aa)) ((a.p.fv)) ((a.p.lr)) ((a.p.lp)) ((a.p.ba)) ((a.p.pa))).trans ?_;have h0:Ln.lnN a.rest=0:=by have hh:Ln.lnN a.rest+Ln.lnN rest0=Ln.lnN rest0:=hI.1;omega
  have hz:=Ln.lnN_zero h0;refine br_f ?_ rfl;rw[toList_by,toList_by,hz];rfl)
def dZ:Dc:=⟨0,.nil,.nil,0,.nil,.nil,.nil,.nil,0,.nil,.nil,0,.nil,.nil,0⟩
def kndF(hd:ByteArray):Int:=fldN (fun j a=>bif hd.toList==(docS j).toList then(j:Int)+1 else a) 4 0 0
def xpL(s rest:ByteArray)(k:Int):A_lpl:={s:=s,rest:=rest,k:=k,can:=0,pin:=0,pc:=0,won:=0,gvn:=0,aan:=0,fvn:=0,rr:=0,lrn:=0,lpo:=0,lpn:=0,ld:=0,ban:=0,pan:=0,cl:=0,ca:=.nil,pi:=.nil,wo:=.nil,gv:=.nil,aa:=.nil,fv:=.nil,lr:=.nil,lp:=.nil,ba:=.nil,pa:=.nil}
def xpR(s rest:ByteArray)(k:Int):Bool×Nat×Pa:=runS (lpl.stop (xpL s rest k)) (lpl.nx (xpL s rest k)) (lpl.len (xpL s rest k)) 0 (lpl.ini (xpL s rest k))
def dcP(p:Px):Dc:=⟨p.k,win0 p.ca,win0 p.pi,p.pc,win0 p.wo,win0 p.gv,win0 p.aa,win0 p.fv,p.rr,win0 p.lr,winOf p.lp p.lpo p.lpn,p.ld,win0 p.ba,win0 p.pa,p.cl⟩
def zR:List D:=[dZ.D,.v (i64 12)]
def xpT(tc:Dc->Bool)(tS:Dc->ByteArray)(tE:Dc->Int)(s:ByteArray)(X:Bool×Nat×Pa)(c:Bool):OD:=br (decide ((s.size:Int)>60000)) (some zR) (br (decide (s.size<4294967281)&&({data:={toList:=[10]:Array UInt8}:ByteArray}).toList==sNl.toList) (br c (br X.1 (some zR) (br (tc (dcP X.2.2.p)) (br (tE (dcP X.2.2.p) !=0) (some zR) (br (!(tS (dcP X.2.2.p)).toList==s.toList) (some zR) (some [(dcP X.2.2.p).D,.v (i64 0)]))) none)) none) none)
theorem uPa(oB rB:ByteArray->ByteArray)(rc:ByteArray->Px->Bool)(rx:ByteArray->Px->Bool×Px)(tc:Dc->Bool)(tS:Dc->ByteArray)(tE:Dc->Int)(s:ByteArray):evF (Cpa [lpk.C,lpl.C] oB rB rc rx tc tS tE) 6 26 [.v (.string s)]=xpT tc tS tE s (xpR s (rB s) (kndF (oB s))) (c_lpl (xpL s (rB s) (kndF (oB s)))):=by kernel_rfl
def canDc(x:Dc):Dc:=⟨x.k,canR 5 [.int .i64,.slice [.int .i64],.slice [.int .i64]] x.ca,canR 5 [.slice [.int .i64,.int .i64,.int .i64,.int .i64]] x.pi,x.pc,canR 5 [.slice [.int .i64,.int .i64]] x.wo,canR 5 [.slice [.int .i64]] x.gv,canR 5 [.int .i64] x.aa,canR 5 [.slice [.int .i64]] x.fv,x.rr,canR 5 [.int .i64] x.lr,canR 5 [.int .i64] x.lp,x.ld,canR 5 [.int .i64] x.ba,canR 5 [.int .i64,.int .i64,.int .i64] x.pa,x.cl⟩
def tcX(x:Dc):Bool:=tcG (canDc x)
def tsX(x:Dc):ByteArray:=tsG (canDc x)
def teX2(x:Dc):Int:=teG (canDc x)
theorem den_teX:DenW Tryz.prog Wd 23 (FteV tcX tsX teX2):=den_teV.canon.less fun ds rs h=>by
 unfold FteV at h;split at h
 ·rename_i d;split at h
  ·rename_i x hx;have e:=asDoc_eq hx;subst e;exact h
  ·cases h
 ·cases h
theorem den_cutV:DenW Tryz.prog Wd 61 (FcuV Ln.oneB Ln.restB):=den_cut.less fun ds rs h=>by
 unfold FcuV at h;split at h
 ·rename_i s p;simp only[A5,A6,A2,A3]at h;obtain⟨⟨h1,h2⟩,rfl⟩:=h;have e2:p=sNl:=bytesEq_iff _ _|>.1 h2;subst e2;show some (decide (s.size<4294967281),[D.v (str (Lib.cut (by_ s) (by_ sNl)).1),D.v (str (Lib.cut (by_ s) (by_ sNl)).2.1),D.v (.bool (Lib.cut (by_ s) (by_ sNl)).2.2)])=_;have hc:Lib.cut (by_ s) (by_ sNl)=((Ln.sp 10 (by_ s)).1,(Ln.sp 10 (by_ s)).2.getD [],(Ln.sp 10 (by_ s)).2.isSome):=Ln.cutN s;rw[A4 h1,hc];rfl
 ·cases h
noncomputable def CpX:Cx:=Cpa [lpk.C,lpl.C] Ln.oneB Ln.restB rdC rdX tcX tsX teX2
theorem CpX_ok:CxW CpX Wd:=mkCx_okI enter mixed (fun p h=>by
 simp only[A8,A7,or_false]at h;rcases h with rfl|rfl
 ·exact den_cutV
 ·exact den_teX) (fun l h=>by
 simp only[A8,A7,or_false]at h;rcases h with rfl|rfl
 ·exact ok_lpk ..
 ·exact ok_lpl ..) (fun p h=>by cases h) (fun p h=>by
 simp only[A8,A7,or_false]at h;rcases h with rfl;exact rd_iat)
def xpP(s:ByteArray):Px:=(xpR s (Ln.restB s) (kndF (Ln.oneB s))).2.2.p
def xpS(s:ByteArray):Bool:=(xpR s (Ln.restB s) (kndF (Ln.oneB s))).1
def xpK(s:ByteArray):Bool:= !decide (60000<s.size)&&(!xpS s&&(teX2 (dcP (xpP s))==0&&(tsX (dcP (xpP s))).toList==s.toList))
def xpC(s:ByteArray):Bool:=decide (60000<s.size)||(xpS s||tcX (dcP (xpP s)))
def xpD(s:ByteArray):Dc:=bif xpK s then dcP (xpP s)else dZ
def xpE(s:ByteArray):Int:=bif xpK s then 0 else 12
def FxpV(pc:ByteArray->Bool)(pd:ByteArray->Dc)(pe:ByteArray->Int):FD
 |[.v (.string s)]=>some (pc s,[(pd s).D,.v (i64 (pe s))])
 |_=>none
theorem den_paX:DenW Tryz.prog Wd 26 (FxpV xpC xpD xpE):=evF_denW CpX_ok fun ds rs h=>by
 unfold FxpV at h;split at h
 ·rename_i s;simp only[A5,A6]at h;obtain⟨h0,rfl⟩:=h;refine(uPa Ln.oneB Ln.restB rdC rdX tcX tsX teX2 s).trans ?_;unfold xpT;unfold xpC at h0;by_cases hs:60000<s.size
  ·rw[A4 (show(s.size:Int)>60000 by omega),br_true];unfold xpD xpE xpK;rw[A4 hs];rfl
  ·rw[AB (show¬(s.size:Int)>60000 by omega),br_false];rw[AB hs,Bool.false_or]at h0;have c2:(decide (s.size<4294967281)&&({data:={toList:=[10]:Array UInt8}:ByteArray}).toList==sNl.toList)=true:=Bool.and_eq_true_iff.2 ⟨A4 (by omega),(beq_self_eq_true sNl.toList:(sNl.toList==sNl.toList)=true)⟩;have hr:=Ln.rest_le s;have c3:c_lpl (xpL s (Ln.restB s) (kndF (Ln.oneB s)))=true:=c_lpl_iff.2 ⟨rfl,rfl,rfl,rfl,rfl,rfl,rfl,rfl,rfl,by show(Ln.restB s).size<=100000;omega,AC _,AC _,AC _,AC _,AC _,AC _⟩;rw[c2,br_true,c3,br_true];unfold xpD xpE xpK;rw[AB hs];change (xpS s||tcX (dcP (xpP s)))=true at h0;show br (xpS s) _ (br (tcX (dcP (xpP s))) (br (teX2 (dcP (xpP s)) !=0) _ (br (!(tsX (dcP (xpP s))).toList==s.toList) _ (some [(dcP (xpP s)).D,.v (i64 0)]))) none)=_;cases h1:xpS s
   ·rw[h1,Bool.false_or]at h0;rw[br_false,h0,br_true];by_cases he:teX2 (dcP (xpP s))=0
    ·rw[show(teX2 (dcP (xpP s)) !=0)=false by rw[he];rfl,show(teX2 (dcP (xpP s))==0)=true by rw[he];rfl,br_false];cases(tsX (dcP (xpP s))).toList==s.toList<;>rfl
    ·rw[show(teX2 (dcP (xpP s)) !=0)=true by simpa using he,show(teX2 (dcP (xpP s))==0)=false by simpa using he,br_true];rfl
   ·rw[br_true];rfl
 ·cases h
end Go.Proofs.YtkcnkimndhgkgaaGreatDoor
namespace Go.Proofs.YtkcnkimndhgkgaaGreatDoor.Rt
open Go.Ev
set_option maxRecDepth 100000
theorem tsigned(m:Bool)(N D:Int):evF C1 6 158 [.v (.bool m),.v (u64 N),.v (u64 D)]=br ((if D>N then D else N)>1000000000000000000) (some [.agg [.v (i64 0),.v (i64 0)],.v (i64 16)]) (br m (some [.agg [.v (i64 (IntKind.i64.wrap (0-IntKind.i64.wrap N))),.v (i64 (IntKind.i64.wrap D))],.v (i64 0)]) (some [.agg [.v (i64 (IntKind.i64.wrap N)),.v (i64 (IntKind.i64.wrap D))],.v (i64 0)])):=by kernel_rfl
def Fsigned:FD
 |[.v (.bool m),.v (.int .u64 N),.v (.int .u64 d)]=>some (uR N&&uR d,[.agg [.v (i64 (mkN m N d)),.v (i64 (mkD N d))],.v (i64 (mkE N d))])
 |_=>none
theorem mk_bad{N d:Int}(h:1000000000000000000<N∨1000000000000000000<d)(m:Bool):mkE N d=16∧mkN m N d=0∧mkD N d=0:=by
 have e:mkE N d=16:=AM h;unfold mkN mkD;rw[e];exact⟨rfl,rfl,rfl⟩
theorem mk_ok{N d:Int}(h:¬(1000000000000000000<N∨1000000000000000000<d))(m:Bool):mkE N d=0∧mkN m N d=(if m=true then-N else N)∧mkD N d=d:=by
 have e:mkE N d=0:=AL h;unfold mkN mkD;rw[e];exact⟨rfl,rfl,rfl⟩
theorem den_signed:Den Tryz.prog 158 Fsigned:=evF_den C1_ok fun ds rs h=>by
 unfold Fsigned at h;split at h
 ·rename_i m N d;simp only[A5,A6,A2,uR_iff]at h;obtain⟨⟨⟨h1,h2⟩,h3,h4⟩,rfl⟩:=h;refine(tsigned m N d).trans ?_;by_cases hm:(if d>N then d else N)>1000000000000000000
  ·obtain⟨e1,e2,e3⟩:=mk_bad (N:=N) (d:=d) (by split at hm<;>omega) m;rw[A4 hm,e1,e2,e3];rfl
  ·have hb:¬(1000000000000000000<N∨1000000000000000000<d):=by split at hm<;>omega
   obtain⟨e1,e2,e3⟩:=mk_ok hb m;rw[AB hm,e1,e2,e3,wrapI_id (n:=N) (by omega) (by omega),wrapI_id (n:=d) (by omega) (by omega),wrapI_id (n:=0-N) (by omega) (by omega),Int.zero_sub];cases m<;>rfl
 ·cases h
noncomputable def C2s:Cx:=mkCx Tryz.prog fns [(138,Fgcd),(137,Fsize),(88,Fchk),(158,Fsigned),(171,Fmul)] []
theorem C2s_ok:CxOk C2s:=mkCx_ok enter mixed (fun p h=>by
 simp only[A8,A7,or_false]at h;rcases h with rfl|rfl|rfl|rfl|rfl
 ·exact den_gcd
 ·exact den_size
 ·exact den_chk
 ·exact den_signed
 ·exact den_mul) (fun l h=>by cases h)
theorem tmake(n d:Int):evF C2s 6 120 [.v (i64 n),.v (i64 d)]=br (d==0) (some [.agg [.v (i64 0),.v (i64 0)],.v (i64 18)]) (br (iR n) (br (iR d) (br (uR (absI n)&&uR (absI d)) (br (gcdI (absI n) (absI d)=0) none (br (gcdI (absI n) (absI d)=0) none (br (uR (IntKind.u64.wrap ((absI n).tdiv (gcdI (absI n) (absI d))))&&uR (IntKind.u64.wrap ((absI d).tdiv (gcdI (absI n) (absI d))))) (some [.agg [.v (i64 (mkN (!decide (n<0)==decide (d<0)) (IntKind.u64.wrap ((absI n).tdiv (gcdI (absI n) (absI d)))) (IntKind.u64.wrap ((absI d).tdiv (gcdI (absI n) (absI d)))))),.v (i64 (mkD (IntKind.u64.wrap ((absI n).tdiv (gcdI (absI n) (absI d)))) (IntKind.u64.wrap ((absI d).tdiv (gcdI (absI n) (absI d))))))],.v (i64 (mkE (IntKind.u64.wrap ((absI n).tdiv (gcdI (absI n) (absI d)))) (IntKind.u64.wrap ((absI d).tdiv (gcdI (absI n) (absI d))))))]) none))) none) none) none):=by kernel_rfl
theorem quo(a g:Int)(h0:0<=a)(h1:a<18446744073709551616)(hg:0<g):IntKind.u64.wrap (a.tdiv g)=a/g∧0<=a/g∧a/g<=a∧uR (a/g)=true:=by
 have e1:=Int.ediv_nonneg h0 (Int.le_of_lt hg);have e2:=Int.ediv_le_self g h0;rw[Int.tdiv_eq_ediv_of_nonneg h0];exact⟨wrapU_id e1 (by omega),e1,e2,uR_iff.mpr ⟨e1,by omega⟩⟩
def mN(n d:Int):Int:=absI n/gcdI (absI n) (absI d)
def mD(n d:Int):Int:=absI d/gcdI (absI n) (absI d)
def makeN(n d:Int):Int:=if d=0 then 0 else mkN (!decide (n<0)==decide (d<0)) (mN n d) (mD n d)
def makeD(n d:Int):Int:=if d=0 then 0 else mkD (mN n d) (mD n d)
def makeE(n d:Int):Int:=if d=0 then 18 else mkE (mN n d) (mD n d)
def Fmake:FD
 |[.v (.int .i64 n),.v (.int .i64 d)]=>some (iR n&&iR d,[.agg [.v (i64 (makeN n d)),.v (i64 (makeD n d))],.v (i64 (makeE n d))])
 |_=>none
theorem make_facts(n d:Int)(h1:iR n=true)(h2:iR d=true)(hd:¬d=0):(uR (absI n)&&uR (absI d))=true∧decide (gcdI (absI n) (absI d)=0)=false∧
  IntKind.u64.wrap ((absI n).tdiv (gcdI (absI n) (absI d)))=mN n d∧IntKind.u64.wrap ((absI d).tdiv (gcdI (absI n) (absI d)))=mD n d∧uR (mN n d)=true∧uR (mD n d)=true:=by
 have⟨h3,h4⟩:=iR_iff.mp h1;have⟨h5,h6⟩:=iR_iff.mp h2;have⟨a1,a0⟩:=absI_or n;have⟨b1,b0⟩:=absI_or d;have hp:=gcdI_pos (absI n) (absI d) a1 (by omega);obtain⟨q1,q2,q3,q4⟩:=quo (absI n) _ a1 (by omega) hp;obtain⟨r1,r2,r3,r4⟩:=quo (absI d) _ b1 (by omega) hp;exact⟨by simp only[A2,uR_iff];omega,AB (by omega),q1,r1,q4,r4⟩
theorem den_make:Den Tryz.prog 120 Fmake:=evF_den C2s_ok fun ds rs h=>by
 unfold Fmake at h;split at h
 ·rename_i n d;simp only[A5,A6,A2]at h;obtain⟨⟨h1,h2⟩,rfl⟩:=h;refine(tmake n d).trans ?_;unfold makeN makeD makeE;by_cases hd:d=0
  ·rw[show(d==0)=true by simpa using hd,AM hd,AM hd,AM hd];rfl
  ·obtain⟨f1,f2,f3,f4,f5,f6⟩:=make_facts n d h1 h2 hd;rw[show(d==0)=false by simpa using hd,h1,h2,f1,f2,f3,f4,f5,f6,AL hd,AL hd,AL hd];rfl
 ·cases h
noncomputable def C3:Cx:=mkCx Tryz.prog fns [(138,Fgcd),(137,Fsize),(144,Fboth),(158,Fsigned),(171,Fmul)] []
theorem C3_ok:CxOk C3:=mkCx_ok enter mixed (fun p h=>by
 simp only[A8,A7,or_false]at h;rcases h with rfl|rfl|rfl|rfl|rfl
 ·exact den_gcd
 ·exact den_size
 ·exact den_check
 ·exact den_signed
 ·exact den_mul) (fun l h=>by cases h)
theorem tmulp(n d m e:Int):evF C3 6 145 [.agg [.v (i64 n),.v (i64 d)],.agg [.v (i64 m),.v (i64 e)]]=br (iR n&&iR d&&iR m&&iR e) (br (chk2 n d m e !=0) (some [.agg [.v (i64 0),.v (i64 0)],.v (i64 (chk2 n d m e))]) (br (iR n) (br (iR m) (br (uR (absI n)&&uR (IntKind.u64.wrap e)) (br (uR (absI m)&&uR (IntKind.u64.wrap d)) (br (gcdI (absI n) (IntKind.u64.wrap e)=0) none (br (gcdI (absI m) (IntKind.u64.wrap d)=0) none (br (uR (IntKind.u64.wrap ((absI n).tdiv (gcdI (absI n) (IntKind.u64.wrap e))))&&uR (IntKind.u64.wrap ((absI m).tdiv (gcdI (absI m) (IntKind.u64.wrap d))))) (br (gcdI (absI m) (IntKind.u64.wrap d)=0) none (br (gcdI (absI n) (IntKind.u64.wrap e)=0) none (br (uR (IntKind.u64.wrap ((IntKind.u64.wrap d).tdiv (gcdI (absI m) (IntKind.u64.wrap d))))&&uR (IntKind.u64.wrap ((IntKind.u64.wrap e).tdiv (gcdI (absI n) (IntKind.u64.wrap e))))) (br (IntKind.u64.wrap (IntKind.u64.wrap ((absI n).tdiv (gcdI (absI n) (IntKind.u64.wrap e)))*IntKind.u64.wrap ((absI m).tdiv (gcdI (absI m) (IntKind.u64.wrap d)))/18446744073709551616+IntKind.u64.wrap ((IntKind.u64.wrap d).tdiv (gcdI (absI m) (IntKind.u64.wrap d)))*IntKind.u64.wrap ((IntKind.u64.wrap e).tdiv (gcdI (absI n) (IntKind.u64.wrap e)))/18446744073709551616)>0) (some [.agg [.v (i64 0),.v (i64 0)],.v (i64 16)]) (br (IntKind.u64.wrap ((absI n).tdiv (gcdI (absI n) (IntKind.u64.wrap e)))*IntKind.u64.wrap ((absI m).tdiv (gcdI (absI m) (IntKind.u64.wrap d)))%18446744073709551616>0) (br (uR (IntKind.u64.wrap ((absI n).tdiv (gcdI (absI n) (IntKind.u64.wrap e)))*IntKind.u64.wrap ((absI m).tdiv (gcdI (absI m) (IntKind.u64.wrap d)))%18446744073709551616)&&uR (IntKind.u64.wrap ((IntKind.u64.wrap d).tdiv (gcdI (absI m) (IntKind.u64.wrap d)))*IntKind.u64.wrap ((IntKind.u64.wrap e).tdiv (gcdI (absI n) (IntKind.u64.wrap e)))%18446744073709551616)) (some [.agg [.v (i64 (mkN (!decide (n<0)==decide (m<0)) (IntKind.u64.wrap ((absI n).tdiv (gcdI (absI n) (IntKind.u64.wrap e)))*IntKind.u64.wrap ((absI m).tdiv (gcdI (absI m) (IntKind.u64.wrap d)))%18446744073709551616) (IntKind.u64.wrap ((IntKind.u64.wrap d).tdiv (gcdI (absI m) (IntKind.u64.wrap d)))*IntKind.u64.wrap ((IntKind.u64.wrap e).tdiv (gcdI (absI n) (IntKind.u64.wrap e)))%18446744073709551616))),.v (i64 (mkD (IntKind.u64.wrap ((absI n).tdiv (gcdI (absI n) (IntKind.u64.wrap e)))*IntKind.u64.wrap ((absI m).tdiv (gcdI (absI m) (IntKind.u64.wrap d)))%18446744073709551616) (IntKind.u64.wrap ((IntKind.u64.wrap d).tdiv (gcdI (absI m) (IntKind.u64.wrap d)))*IntKind.u64.wrap ((IntKind.u64.wrap e).tdiv (gcdI (absI n) (IntKind.u64.wrap e)))%18446744073709551616)))],.v (i64 (mkE (IntKind.u64.wrap ((absI n).tdiv (gcdI (absI n) (IntKind.u64.wrap e)))*IntKind.u64.wrap ((absI m).tdiv (gcdI (absI m) (IntKind.u64.wrap d)))%18446744073709551616) (IntKind.u64.wrap ((IntKind.u64.wrap d).tdiv (gcdI (absI m) (IntKind.u64.wrap d)))*IntKind.u64.wrap ((IntKind.u64.wrap e).tdiv (gcdI (absI n) (IntKind.u64.wrap e)))%18446744073709551616)))]) none) (br (uR (IntKind.u64.wrap ((absI n).tdiv (gcdI (absI n) (IntKind.u64.wrap e)))*IntKind.u64.wrap ((absI m).tdiv (gcdI (absI m) (IntKind.u64.wrap d)))%18446744073709551616)&&uR (IntKind.u64.wrap ((IntKind.u64.wrap d).tdiv (gcdI (absI m) (IntKind.u64.wrap d)))*IntKind.u64.wrap ((IntKind.u64.wrap e).tdiv (gcdI (absI n) (IntKind.u64.wrap e)))%18446744073709551616)) (some [.agg [.v (i64 (mkN false (IntKind.u64.wrap ((absI n).tdiv (gcdI (absI n) (IntKind.u64.wrap e)))*IntKind.u64.wrap ((absI m).tdiv (gcdI (absI m) (IntKind.u64.wrap d)))%18446744073709551616) (IntKind.u64.wrap ((IntKind.u64.wrap d).tdiv (gcdI (absI m) (IntKind.u64.wrap d)))*IntKind.u64.wrap ((IntKind.u64.wrap e).tdiv (gcdI (absI n) (IntKind.u64.wrap e)))%18446744073709551616))),.v (i64 (mkD (IntKind.u64.wrap ((absI n).tdiv (gcdI (absI n) (IntKind.u64.wrap e)))*IntKind.u64.wrap ((absI m).tdiv (gcdI (absI m) (IntKind.u64.wrap d)))%18446744073709551616) (IntKind.u64.wrap ((IntKind.u64.wrap d).tdiv (gcdI (absI m) (IntKind.u64.wrap d)))*IntKind.u64.wrap ((IntKind.u64.wrap e).tdiv (gcdI (absI n) (IntKind.u64.wrap e)))%18446744073709551616)))],.v (i64 (mkE (IntKind.u64.wrap ((absI n).tdiv (gcdI (absI n) (IntKind.u64.wrap e)))*IntKind.u64.wrap ((absI m).tdiv (gcdI (absI m) (IntKind.u64.wrap d)))%18446744073709551616) (IntKind.u64.wrap ((IntKind.u64.wrap d).tdiv (gcdI (absI m) (IntKind.u64.wrap d)))*IntKind.u64.wrap ((IntKind.u64.wrap e).tdiv (gcdI (absI n) (IntKind.u64.wrap e)))%18446744073709551616)))]) none))) none))) none))) none) none) none) none)) (none):=by kernel_rfl
def pN(n d m e:Int):Int:=(absI n/gcdI (absI n) e)*(absI m/gcdI (absI m) d)
def pD(n d m e:Int):Int:=(d/gcdI (absI m) d)*(e/gcdI (absI n) e)
def sgn(n m:Int):Bool:= !decide (n<0)==decide (m<0)
def prN(n d m e:Int):Int:=if chk2 n d m e=0 then mkN (decide (pN n d m e>0)&&sgn n m) (pN n d m e) (pD n d m e)else 0
def prD(n d m e:Int):Int:=if chk2 n d m e=0 then mkD (pN n d m e) (pD n d m e)else 0
def prE(n d m e:Int):Int:=if chk2 n d m e=0 then mkE (pN n d m e) (pD n d m e)else chk2 n d m e
def Fpr:FD
 |[.agg [.v (.int .i64 n),.v (.int .i64 d)],.agg [.v (.int .i64 m),.v (.int .i64 e)]]=>some (iR n&&iR d&&iR m&&iR e,[.agg [.v (i64 (prN n d m e)),.v (i64 (prD n d m e))],.v (i64 (prE n d m e))])
 |_=>none
theorem mul_most{x y:Int}(h0:0<=x)(h1:x<=1000000000000000000)(h2:0<=y)(h3:y<=1000000000000000000):0<=x*y∧x*y<=1000000000000000000000000000000000000:=⟨Int.mul_nonneg h0 h2,by
 have:=Int.mul_le_mul h1 h3 h2 (by decide);omega⟩
theorem den_mulp:Den Tryz.prog 145 Fpr:=evF_den C3_ok fun ds rs h=>by
 unfold Fpr at h;split at h
 ·rename_i n d m e;simp only[A5,A6]at h;obtain⟨h0,rfl⟩:=h;refine(tmulp n d m e).trans ?_;rw[h0,br_true];simp only[A2]at h0;obtain⟨⟨⟨h1,h2⟩,h3⟩,h4⟩:=h0;unfold prN prD prE;by_cases hc:chk2 n d m e=0
  ·obtain⟨⟨⟨d1,d2⟩,⟨n1,n2⟩,_⟩,⟨e1,e2⟩,⟨m1,m2⟩,_⟩:=chk2_good hc;have⟨a1,a0⟩:=absI_or n;have⟨b1,b0⟩:=absI_or m;have hg:=gcdI_pos (absI n) e a1 (by omega);have hh:=gcdI_pos (absI m) d b1 (by omega);obtain⟨p1,p2,p3,p4⟩:=quo (absI n) _ a1 (by omega) hg;obtain⟨r1,r2,r3,r4⟩:=quo (absI m) _ b1 (by omega) hh;obtain⟨q1,q2,q3,q4⟩:=quo d _ (by omega) (by omega) hh;obtain⟨s1,s2,s3,s4⟩:=quo e _ (by omega) (by omega) hg;rw[show(chk2 n d m e !=0)=false by simpa using hc,AM hc,AM hc,AM hc,h1,h3,wrapU_id (n:=d) (by omega) (by omega),wrapU_id (n:=e) (by omega) (by omega),p1,r1,q1,s1,p4,r4,q4,s4,
    show(uR (absI n)&&uR e)=true by simp only[A2,uR_iff];omega,show(uR (absI m)&&uR d)=true by simp only[A2,uR_iff];omega,
    AB (show¬gcdI (absI n) e=0 by omega),AB (show¬gcdI (absI m) d=0 by omega)]
   obtain⟨x1,x2⟩:=mul_most p2 (by omega) r2 (by omega);obtain⟨y1,y2⟩:=mul_most q2 (by omega) s2 (by omega);rw[show absI n/gcdI (absI n) e*(absI m/gcdI (absI m) d)=pN n d m e from rfl,show d/gcdI (absI m) d*(e/gcdI (absI n) e)=pD n d m e from rfl];rw[show absI n/gcdI (absI n) e*(absI m/gcdI (absI m) d)=pN n d m e from rfl]at x1 x2;rw[show d/gcdI (absI m) d*(e/gcdI (absI n) e)=pD n d m e from rfl]at y1 y2;generalize pN n d m e=N at*
   generalize pD n d m e=M at*
   rw[wrapU_id (n:=N/18446744073709551616+M/18446744073709551616) (by omega) (by omega)];simp only[Bool.and_self,br_true,br_false];by_cases ho:N/18446744073709551616+M/18446744073709551616>0
   ·obtain⟨z1,z2,z3⟩:=mk_bad (N:=N) (d:=M) (by omega) (decide (N>0)&&sgn n m);rw[A4 ho,z1,z2,z3];rfl
   ·rw[AB ho,br_false,show N%18446744073709551616=N by omega,show M%18446744073709551616=M by omega,show(uR N&&uR M)=true by simp only[A2,uR_iff];omega];cases hz:decide (N>0)<;>simp only[br_true,br_false,Bool.true_and,Bool.false_and]<;>rfl
  ·rw[show(chk2 n d m e !=0)=true by simpa using hc,AL hc,AL hc,AL hc];rfl
 ·cases h
def diN(n d m e:Int):Int:=if chk2 n d m e=0 then(if m=0 then 0 else if m<0 then prN n d (-e) (-m)else prN n d e m)else 0
def diD(n d m e:Int):Int:=if chk2 n d m e=0 then(if m=0 then 0 else if m<0 then prD n d (-e) (-m)else prD n d e m)else 0
def diE(n d m e:Int):Int:=if chk2 n d m e=0 then(if m=0 then 18 else if m<0 then prE n d (-e) (-m)else prE n d e m)else chk2 n d m e
def Fdi:FD
 |[.agg [.v (.int .i64 n),.v (.int .i64 d)],.agg [.v (.int .i64 m),.v (.int .i64 e)]]=>some (iR n&&iR d&&iR m&&iR e,[.agg [.v (i64 (diN n d m e)),.v (i64 (diD n d m e))],.v (i64 (diE n d m e))])
 |_=>none
noncomputable def C4:Cx:=mkCx Tryz.prog fns [(144,Fboth),(145,Fpr),(120,Fmake)] []
theorem C4_ok:CxOk C4:=mkCx_ok enter mixed (fun p h=>by
 simp only[A8,A7,or_false]at h;rcases h with rfl|rfl|rfl
 ·exact den_check
 ·exact den_mulp
 ·exact den_make) (fun l h=>by cases h)
theorem tdiv(n d m e:Int):evF C4 6 101 [.agg [.v (i64 n),.v (i64 d)],.agg [.v (i64 m),.v (i64 e)]]=br (iR n&&iR d&&iR m&&iR e) (br (chk2 n d m e !=0) (some [.agg [.v (i64 0),.v (i64 0)],.v (i64 (chk2 n d m e))]) (br (m==0) (some [.agg [.v (i64 0),.v (i64 0)],.v (i64 18)]) (br (m<0) (br (iR n&&iR d&&iR (IntKind.i64.wrap (0-e))&&iR (IntKind.i64.wrap (0-m))) (some [.agg [.v (i64 (prN n d (IntKind.i64.wrap (0-e)) (IntKind.i64.wrap (0-m)))),.v (i64 (prD n d (IntKind.i64.wrap (0-e)) (IntKind.i64.wrap (0-m))))],.v (i64 (prE n d (IntKind.i64.wrap (0-e)) (IntKind.i64.wrap (0-m))))]) none) (br (iR n&&iR d&&iR e&&iR m) (some [.agg [.v (i64 (prN n d e m)),.v (i64 (prD n d e m))],.v (i64 (prE n d e m))]) none)))) (none):=by kernel_rfl
theorem den_div:Den Tryz.prog 101 Fdi:=evF_den C4_ok fun ds rs h=>by
 unfold Fdi at h;split at h
 ·rename_i n d m e;simp only[A5,A6]at h;obtain⟨h0,rfl⟩:=h;refine(tdiv n d m e).trans ?_;rw[h0,br_true];simp only[A2]at h0;obtain⟨⟨⟨h1,h2⟩,h3⟩,h4⟩:=h0;unfold diN diD diE;by_cases hc:chk2 n d m e=0
  ·obtain⟨_,⟨e1,e2⟩,⟨m1,m2⟩,_⟩:=chk2_good hc;rw[show(chk2 n d m e !=0)=false by simpa using hc,AM hc,AM hc,AM hc,wrapI_id (n:=0-e) (by omega) (by omega),wrapI_id (n:=0-m) (by omega) (by omega),Int.zero_sub,Int.zero_sub,
    show(iR n&&iR d&&iR (-e)&&iR (-m))=true by
     simp only[A2];exact⟨⟨⟨h1,h2⟩,iR_iff.mpr (by omega)⟩,iR_iff.mpr (by omega)⟩,
    show(iR n&&iR d&&iR e&&iR m)=true by
     simp only[A2];exact⟨⟨⟨h1,h2⟩,h4⟩,h3⟩]
   by_cases hm:m=0
   ·rw[show(m==0)=true by simpa using hm,AM hm,AM hm,AM hm];rfl
   ·rw[show(m==0)=false by simpa using hm,AL hm,AL hm,AL hm];by_cases hn:m<0
    ·rw[A4 hn,AM hn,AM hn,AM hn];rfl
    ·rw[AB hn,AL hn,AL hn,AL hn];rfl
  ·rw[show(chk2 n d m e !=0)=true by simpa using hc,AL hc,AL hc,AL hc];rfl
 ·cases h
theorem gcdI_dvd2(a b:Int)(hb:0<=b):gcdI a b ∣ b:=by
 have h:=Nat.gcd_dvd_right a.toNat b.toNat;have h2:((Nat.gcd a.toNat b.toNat:Nat):Int) ∣ ((b.toNat:Nat):Int):=Int.natCast_dvd_natCast.mpr h
 rwa [Int.toNat_of_nonneg hb]at h2
def bor(x y:Int):Int:=if x<y then 1 else 0
def Xadd:List Value->Option (Bool×List Value)
 |[.int .u64 x,.int .u64 y,.int .u64 c]=>some (uR x&&uR y&&(decide (0<=c)&&decide (c<=1)),[u64 ((x+y+c)%18446744073709551616),u64 ((x+y+c)/18446744073709551616)])
 |_=>none
def Xsub:List Value->Option (Bool×List Value)
 |[.int .u64 x,.int .u64 y,.int .u64 c]=>some (uR x&&uR y&&(decide (0<=c)&&decide (c<=1)),[u64 ((x-y-c)%18446744073709551616),u64 (bor x (y+c))])
 |_=>none
theorem ext_add:ExtOk Tryz.prog 239 Xadd:=fun args vs h=>by
 unfold Xadd at h;split at h
 ·rename_i x y c;simp only[A5,A6,A2,uR_iff,A3]at h;obtain⟨⟨⟨⟨h1,h2⟩,h3,h4⟩,h5,h6⟩,rfl⟩:=h;refine⟨fun v hv=>?_,fun v hv=>?_,fun w=>?_⟩
  ·simp only[A8,A7,or_false]at hv;rcases hv with rfl|rfl|rfl<;>rfl
  ·simp only[A8,A7,or_false]at hv;rcases hv with rfl|rfl<;>rfl
  ·rw[run_callFunc_extern Tryz.func239 (by kernel_rfl) (by kernel_rfl) (by kernel_rfl) (e:=add64Entry) (by kernel_rfl),run_add64 x y c h1 h3 h5 h6];rfl
 ·cases h
theorem ext_sub:ExtOk Tryz.prog 240 Xsub:=fun args vs h=>by
 unfold Xsub at h;split at h
 ·rename_i x y c;simp only[A5,A6,A2,uR_iff,A3]at h;obtain⟨⟨⟨⟨h1,h2⟩,h3,h4⟩,h5,h6⟩,rfl⟩:=h;refine⟨fun v hv=>?_,fun v hv=>?_,fun w=>?_⟩
  ·simp only[A8,A7,or_false]at hv;rcases hv with rfl|rfl|rfl<;>rfl
  ·simp only[A8,A7,or_false]at hv;rcases hv with rfl|rfl<;>rfl
  ·obtain⟨x,rfl⟩:=Int.eq_ofNat_of_zero_le h1;obtain⟨y,rfl⟩:=Int.eq_ofNat_of_zero_le h3;obtain⟨c,rfl⟩:=Int.eq_ofNat_of_zero_le h5;have e1:(((x+18446744073709551616-y-c)%18446744073709551616:Nat):Int)=((x:Int)-y-c)%18446744073709551616:=by omega
   have e2:((if x<y+c then 1 else 0:Nat):Int)=bor x (y+c):=by unfold bor;split<;>split<;>omega
   rw[<-e1,<-e2,run_callFunc_extern Tryz.func240 (by kernel_rfl) (by kernel_rfl) (by kernel_rfl) (e:=sub64Entry) (by kernel_rfl),run_sub64 x y c (by omega)];rfl
 ·cases h
def tabL:List UInt8:=0::1::(List.replicate 2 2++(List.replicate 4 3++(List.replicate 8 4++(List.replicate 16 5++(List.replicate 32 6++(List.replicate 64 7++List.replicate 128 8))))))
def tabB:ByteArray:=⟨⟨tabL⟩⟩
def lf(n x:Int):OD:=br (decide (0<=IntKind.u8.wrap x)&&decide (IntKind.u8.wrap x<(tabB.size:Int))) (some [.v (i64 (IntKind.i64.wrap (64-IntKind.i64.wrap (n+IntKind.i64.wrap ((tabB.data.getD (IntKind.u8.wrap x).toNat 0).toNat:Int)))))]) none
def l8(n x:Int):OD:=br (decide (x>=256)) (lf (IntKind.i64.wrap (n+8)) (x.fdiv (2^8))) (lf n x)
def l16(n x:Int):OD:=br (decide (x>=65536)) (l8 (IntKind.i64.wrap (n+16)) (x.fdiv (2^16))) (l8 n x)
def l32(x:Int):OD:=br (decide (x>=4294967296)) (l16 32 (x.fdiv (2^32))) (l16 0 x)
theorem tlz(x:Int):evF C0 6 259 [.v (u64 x)]=l32 x:=by kernel_rfl
theorem tab_log:∀k,k<256->0<k->(tabB.data.getD k 0).toNat=Nat.log2 k+1:=by decide+kernel
def lzI(x:Int):Int:=63-(Nat.log2 x.toNat:Int)
theorem lf_eq(n:Int)(m:Nat)(h0:0<=n)(h1:n<=56)(h2:0<m)(h3:m<256):lf n (m:Int)=some [.v (i64 (63-n-(Nat.log2 m:Int)))]:=by
 have hw:IntKind.u8.wrap (m:Int)=m:=wrap_id (by simp only[Lit.wf,A2,A3,IntKind.min,IntKind.max,IntKind.signed,IntKind.bits];simp;omega);have ht:=tab_log m h3 h2;have hl:Nat.log2 m<8:=by rw[Nat.log2_lt (by omega)];exact h3
 unfold lf;rw[hw,A9,ht,wrapI_id (n:=((Nat.log2 m+1:Nat):Int)) (by omega) (by omega),wrapI_id (n:=n+((Nat.log2 m+1:Nat):Int)) (by omega) (by omega),wrapI_id (n:=64-(n+((Nat.log2 m+1:Nat):Int))) (by omega) (by omega),
  A4 (show(0:Int)<=(m:Int) by omega),show decide ((m:Int)<(tabB.size:Int))=true from A4 (by rw[show tabB.size=256 from rfl];omega)]
 rw[show(64:Int)-(n+((Nat.log2 m+1:Nat):Int))=63-n-(Nat.log2 m:Int) by omega];rfl
theorem log2_div(m k:Nat)(h:m/2^k≠0):Nat.log2 m=Nat.log2 (m/2^k)+k:=by
 have hm:m≠0:=fun h0=>h (by rw[h0,Nat.zero_div]);rw[Nat.log2_eq_iff hm];have⟨a,b⟩:=(Nat.log2_eq_iff h).mp rfl;generalize Nat.log2 (m/2^k)=j at*
 rw[Nat.le_div_iff_mul_le (Nat.two_pow_pos k)]at a;rw[Nat.div_lt_iff_lt_mul (Nat.two_pow_pos k)]at b;rw[Nat.pow_add,show j+k+1=(j+1)+k by omega,Nat.pow_add];exact⟨a,b⟩
theorem fdivN(m k:Nat):((m:Nat):Int).fdiv (2^k)=((m/2^k:Nat):Int):=by
 rw[Int.fdiv_eq_ediv_of_nonneg _ (Int.le_of_lt (Int.pow_pos (by decide))),Int.natCast_ediv,Int.natCast_pow];rfl
theorem l8_eq(n:Int)(m:Nat)(h0:0<=n)(h1:n<=48)(h2:0<m)(h3:m<65536):l8 n (m:Int)=some [.v (i64 (63-n-(Nat.log2 m:Int)))]:=by
 unfold l8;by_cases h:m<256
 ·rw[AB (by omega),br_false,lf_eq n m h0 (by omega) h2 h]
 ·have hd:m/2^8≠0:=by omega
  rw[A4 (by omega),br_true,wrapI_id (n:=n+8) (by omega) (by omega),fdivN,lf_eq (n+8) (m/2^8) (by omega) (by omega) (by omega) (by omega),log2_div m 8 hd,show(63:Int)-(n+8)-(Nat.log2 (m/2^8):Int)=63-n-((Nat.log2 (m/2^8)+8:Nat):Int) by omega]
theorem l16_eq(n:Int)(m:Nat)(h0:0<=n)(h1:n<=32)(h2:0<m)(h3:m<4294967296):l16 n (m:Int)=some [.v (i64 (63-n-(Nat.log2 m:Int)))]:=by
 unfold l16;by_cases h:m<65536
 ·rw[AB (by omega),br_false,l8_eq n m h0 (by omega) h2 h]
 ·have hd:m/2^16≠0:=by omega
  rw[A4 (by omega),br_true,wrapI_id (n:=n+16) (by omega) (by omega),fdivN,l8_eq (n+16) (m/2^16) (by omega) (by omega) (by omega) (by omega),log2_div m 16 hd,show(63:Int)-(n+16)-(Nat.log2 (m/2^16):Int)=63-n-((Nat.log2 (m/2^16)+16:Nat):Int) by omega]
theorem l32_eq(m:Nat)(h2:0<m)(h3:m<18446744073709551616):l32 (m:Int)=some [.v (i64 (63-(Nat.log2 m:Int)))]:=by
 unfold l32;by_cases h:m<4294967296
 ·rw[AB (by omega),br_false,l16_eq 0 m (by omega) (by omega) h2 h,Int.sub_zero]
 ·have hd:m/2^32≠0:=by omega
  rw[A4 (by omega),br_true,fdivN,l16_eq 32 (m/2^32) (by omega) (by omega) (by omega) (by omega),log2_div m 32 hd,show(63:Int)-32-(Nat.log2 (m/2^32):Int)=63-((Nat.log2 (m/2^32)+32:Nat):Int) by omega]
def Flz:FD
 |[.v (.int .u64 x)]=>some (uR x&&decide (0<x),[.v (i64 (lzI x))])
 |_=>none
theorem den_lz:Den Tryz.prog 259 Flz:=evF_den C0_ok fun ds rs h=>by
 unfold Flz at h;split at h
 ·rename_i x;simp only[A5,A6,A2,uR_iff,A3]at h;obtain⟨⟨⟨h1,h2⟩,h3⟩,rfl⟩:=h;refine(tlz x).trans ?_;obtain⟨m,rfl⟩:=Int.eq_ofNat_of_zero_le h1;rw[l32_eq m (by omega) (by omega)];unfold lzI;rw[A9]
 ·cases h
theorem lz_spec(x:Int)(h0:0<x)(h1:x<18446744073709551616):∃s:Nat,lzI x=s∧s<=63∧9223372036854775808<=x*2^s∧x*2^s<18446744073709551616:=by
 obtain⟨m,rfl⟩:=Int.eq_ofNat_of_zero_le (Int.le_of_lt h0);have hm:m≠0:=by omega
 have hl:Nat.log2 m<64:=by rw[Nat.log2_lt hm];omega
 have⟨a,b⟩:=(Nat.log2_eq_iff hm).mp rfl;refine⟨63-Nat.log2 m,?_,by omega,?_,?_⟩
 ·unfold lzI;rw[A9];omega
 ·have e:(2:Nat)^Nat.log2 m*2^(63-Nat.log2 m)=9223372036854775808:=by rw[<-Nat.pow_add,show Nat.log2 m+(63-Nat.log2 m)=63 by omega]
  have:=AH (2^(63-Nat.log2 m)) a;rw[e]at this;have h2:((m*2^(63-Nat.log2 m):Nat):Int)=(m:Int)*2^(63-Nat.log2 m):=by rw[Int.natCast_mul,Int.natCast_pow];rfl
  rw[<-h2];omega
 ·have e:(2:Nat)^(Nat.log2 m+1)*2^(63-Nat.log2 m)=18446744073709551616:=by rw[<-Nat.pow_add,show Nat.log2 m+1+(63-Nat.log2 m)=64 by omega]
  have:=Nat.mul_lt_mul_of_pos_right b (Nat.two_pow_pos (63-Nat.log2 m));rw[e]at this;have h2:((m*2^(63-Nat.log2 m):Nat):Int)=(m:Int)*2^(63-Nat.log2 m):=by rw[Int.natCast_mul,Int.natCast_pow];rfl
  rw[<-h2];omega
theorem q_mul(q a b:Int):q*(a*4294967296+b)=q*a*4294967296+q*b:=by rw[Int.mul_add,<-Int.mul_assoc]
def dvP(y a b u c q r:Int):Prop:=(0<=b∧b<4294967296)∧(2147483648<=a∧a<4294967296)∧y=a*4294967296+b∧(0<=u∧u<y)∧(0<=c∧c<4294967296)∧q*a+r=u∧(0<=r∧r<4294967296)∧(u*4294967296+c)/y<=q∧q<=4294967297
instance{y a b u c q r:Int}:Decidable (dvP y a b u c q r):=by unfold dvP;infer_instance
def dvB(y a b u c q r:Int):Bool:=dvP y a b u c q r
theorem qs_lt{y u c:Int}(h0:0<=u)(h1:u<y)(h2:0<=c)(h3:c<4294967296):0<=(u*4294967296+c)/y∧(u*4294967296+c)/y<4294967296:=by
 constructor
 ·exact Int.ediv_nonneg (by omega) (by omega)
 ·rw[Int.ediv_lt_iff_lt_mul (by omega)];omega
theorem go_div{f:St->(X->St->OD)->OD}{lv:List Tmp}{lx:Option (List Tmp)}{S:Int->Int->St}{Sx:Int->St}{e:Nat}{y a b u c:Int}
  (hr:∀q r R K,f (S q r) (rnd lv lx R K)=br (decide (q>=4294967296)) (br (decide (IntKind.u64.wrap (r+a)>=4294967296)) (K (.exit e) (Sx (IntKind.u64.wrap (q-1)))) (R (S (IntKind.u64.wrap (q-1)) (IntKind.u64.wrap (r+a)))))
   (br (decide (IntKind.u64.wrap (q*b)>IntKind.u64.wrap (IntKind.u64.wrap (4294967296*r)+c))) (br (decide (IntKind.u64.wrap (r+a)>=4294967296)) (K (.exit e) (Sx (IntKind.u64.wrap (q-1)))) (R (S (IntKind.u64.wrap (q-1)) (IntKind.u64.wrap (r+a))))) (K (.exit e) (Sx q))))
  (K:X->St->OD):∀(n:Nat)(q r:Int),dvP y a b u c q r->q<(u*4294967296+c)/y+n->rounds lv lx f n (S q r) K=K (.exit e) (Sx ((u*4294967296+c)/y))
 |0,q,r,h,hn=>by
  obtain⟨_,_,_,_,_,_,_,h8,_⟩:=h;omega
 |n+1,q,r,h,hn=>by
  obtain⟨⟨b0,b1⟩,⟨a0,a1⟩,hy,⟨u0,u1⟩,⟨c0,c1⟩,hq,⟨r0,r1⟩,h8,h9⟩:=h;obtain⟨s0,s1⟩:=qs_lt u0 u1 c0 c1;have hle:∀t,t<=(u*4294967296+c)/y↔t*y<=u*4294967296+c:=fun t=>Int.le_ediv_iff_mul_le (by omega);generalize hs:(u*4294967296+c)/y=qs at*
  have e1:=hle q;have e2:=hle (q-1);have m1:q*y=q*a*4294967296+q*b:=by rw[hy,q_mul]
  have m2:(q-1)*y=q*a*4294967296+q*b-y:=by rw[Int.sub_mul,m1,Int.one_mul]
  have m3:(q-1)*a=q*a-a:=by rw[Int.sub_mul,Int.one_mul]
  have m4:(q-1)*b=q*b-b:=by rw[Int.sub_mul,Int.one_mul]
  have hdec:qs<=q-1->1<=q->rounds lv lx f (n+1) (S q r) K=br (decide (IntKind.u64.wrap (r+a)>=4294967296)) (K (.exit e) (Sx (IntKind.u64.wrap (q-1)))) (rounds lv lx f n (S (IntKind.u64.wrap (q-1)) (IntKind.u64.wrap (r+a))) K)->rounds lv lx f (n+1) (S q r) K=K (.exit e) (Sx qs):=by
   intro k1 k2 k3;rw[k3,wrapU_id (n:=r+a) (by omega) (by omega),wrapU_id (n:=q-1) (by omega) (by omega)];by_cases h2:r+a>=4294967296
   ·have k4:(q-1)*b<=4294967296*4294967295:=Int.mul_le_mul (by omega) (by omega) b0 (by decide);have k5:q-1<=qs:=e2.mpr (by omega);rw[A4 h2,br_true,show q-1=qs by omega]
   ·rw[AB h2,br_false,<-hs];exact go_div hr K n (q-1) (r+a) ⟨⟨b0,b1⟩,⟨a0,a1⟩,hy,⟨u0,u1⟩,⟨c0,c1⟩,by omega,⟨by omega,by omega⟩,by omega,by omega⟩ (by omega)
  by_cases h1:q>=4294967296
  ·exact hdec (by omega) (by omega) (by rw[rnds1,hr,A4 h1,br_true])
  ·have z0:0<=q*b:=Int.mul_nonneg (by omega) b0;have z1:q*b<=4294967295*4294967295:=Int.mul_le_mul (by omega) (by omega) b0 (by decide);have w1:IntKind.u64.wrap (q*b)=q*b:=wrapU_id (by omega) (by omega);have w2:IntKind.u64.wrap (IntKind.u64.wrap (4294967296*r)+c)=4294967296*r+c:=by rw[wrapU_id (n:=4294967296*r) (by omega) (by omega),wrapU_id (by omega) (by omega)]
   by_cases h2:q*b>4294967296*r+c
   ·exact hdec (by omega) (by omega) (by rw[rnds1,hr,AB h1,br_false,w1,w2,A4 h2,br_true])
   ·rw[rnds1,hr,AB h1,br_false,w1,w2,AB h2,br_false,show q=qs by omega]
def S17(y s a b u c d q r:Int):St:=⟨us 2++[.int .u64 y]++us 5++[.int .u64 s,.int .u64 a,.int .u64 b,.int .u64 u]++us 1++[.int .u64 c,.int .u64 d,.int .u64 q,.int .u64 r]++us 118,[[]],[]⟩
def S17x(y s a b u c d q:Int):St:=⟨us 2++[.int .u64 y]++us 5++[.int .u64 s,.int .u64 a,.int .u64 b,.int .u64 u]++us 1++[.int .u64 c,.int .u64 d,.int .u64 q]++us 119,[[]],[]⟩
def G17(cd:Int->Int->Int->Int->Int->Int->Int->Bool):List It->(X->St->OD)->OD
 |[.i y,.i s,.i a,.i b,.i u,.i c,.i d,.i q,.i r],k=>br (cd y a b u c q r) (k (.exit 0) (S17x y s a b u c d ((u*4294967296+c)/y))) none
 |_,_=>none
def l17(cd:Int->Int->Int->Int->Int->Int->Int->Bool):LoopC where
 f:=242
 id:=17
 lv:=[2,8,9,10,11,13,14,15,16]
 lx:=[2,6,7,8,9,10,11,13,14,15]
 p:={τ:=pu 2++[.v (.int .u64)]++pu 5++[.v (.int .u64),.v (.int .u64),.v (.int .u64),.v (.int .u64)]++pu 1++[.v (.int .u64),.v (.int .u64),.v (.int .u64),.v (.int .u64)]++pu 118,saved:=[[]],mem:=[]}
 G:=G17 cd
def S24(y s a b d q1 r u q:Int):St:=⟨us 2++[.int .u64 y]++us 5++[.int .u64 s,.int .u64 a,.int .u64 b]++us 3++[.int .u64 d,.int .u64 q1,.int .u64 r,.int .u64 u,.int .u64 q]++us 116,[[]],[]⟩
def S24x(y s d q1 u q:Int):St:=⟨us 2++[.int .u64 y]++us 5++[.int .u64 s]++us 5++[.int .u64 d,.int .u64 q1]++us 1++[.int .u64 u,.int .u64 q]++us 116,[[]],[]⟩
def G24(cd:Int->Int->Int->Int->Int->Int->Int->Bool):List It->(X->St->OD)->OD
 |[.i y,.i s,.i a,.i b,.i d,.i q1,.i r,.i u,.i q],k=>br (cd y a b u d q r) (k (.exit 2) (S24x y s d q1 u ((u*4294967296+d)/y))) none
 |_,_=>none
def l24(cd:Int->Int->Int->Int->Int->Int->Int->Bool):LoopC where
 f:=242
 id:=24
 lv:=[2,8,9,10,14,15,16,17,18]
 lx:=[2,6,7,8,14,15,17,18]
 p:={τ:=pu 2++[.v (.int .u64)]++pu 5++[.v (.int .u64),.v (.int .u64),.v (.int .u64)]++pu 3++[.v (.int .u64),.v (.int .u64),.v (.int .u64),.v (.int .u64),.v (.int .u64)]++pu 116,saved:=[[]],mem:=[]}
 G:=G24 cd
noncomputable def C8g(cd:Int->Int->Int->Int->Int->Int->Int->Bool):Cx:=mkCx Tryz.prog fns [(259,Flz)] [l17 cd,l24 cd]
noncomputable def C8:Cx:=C8g dvB
theorem round17(p:Nat)(R:St->OD)(K:X->St->OD)(y s a b u c d q r:Int):evCode C8 242 true (inl C8 (p+4)) (lbody C8.P 242 17) (S17 y s a b u c d q r) (rnd [2,8,9,10,11,13,14,15,16] (some [2,6,7,8,9,10,11,13,14,15]) R K)=br (q>=4294967296) (br (IntKind.u64.wrap (r+a)>=4294967296) (K (.exit 0) (S17x y s a b u c d (IntKind.u64.wrap (q-1)))) (R (S17 y s a b u c d (IntKind.u64.wrap (q-1)) (IntKind.u64.wrap (r+a))))) (br (IntKind.u64.wrap (q*b)>IntKind.u64.wrap (IntKind.u64.wrap (4294967296*r)+c)) (br (IntKind.u64.wrap (r+a)>=4294967296) (K (.exit 0) (S17x y s a b u c d (IntKind.u64.wrap (q-1)))) (R (S17 y s a b u c d (IntKind.u64.wrap (q-1)) (IntKind.u64.wrap (r+a))))) (K (.exit 0) (S17x y s a b u c d q))):=by kernel_rfl
theorem round24(p:Nat)(R:St->OD)(K:X->St->OD)(y s a b d q1 r u q:Int):evCode C8 242 true (inl C8 (p+4)) (lbody C8.P 242 24) (S24 y s a b d q1 r u q) (rnd [2,8,9,10,14,15,16,17,18] (some [2,6,7,8,14,15,17,18]) R K)=br (q>=4294967296) (br (IntKind.u64.wrap (r+a)>=4294967296) (K (.exit 2) (S24x y s d q1 u (IntKind.u64.wrap (q-1)))) (R (S24 y s a b d q1 (IntKind.u64.wrap (r+a)) u (IntKind.u64.wrap (q-1))))) (br (IntKind.u64.wrap (q*b)>IntKind.u64.wrap (IntKind.u64.wrap (4294967296*r)+d)) (br (IntKind.u64.wrap (r+a)>=4294967296) (K (.exit 2) (S24x y s d q1 u (IntKind.u64.wrap (q-1)))) (R (S24 y s a b d q1 (IntKind.u64.wrap (r+a)) u (IntKind.u64.wrap (q-1))))) (K (.exit 2) (S24x y s d q1 u q))):=by kernel_rfl
theorem loop17:LoopOk C8 (l17 dvB):=⟨by kernel_rfl,fun q its k rr h=>by
 show rounds [2,8,9,10,11,13,14,15,16] (some [2,6,7,8,9,10,11,13,14,15]) (evCode C8 242 true (inl C8 (q+4)) (lbody C8.P 242 17)) 18446744073709551616 (bst (l17 dvB).p its) k=some rr;change G17 dvB its k=some rr at h;unfold G17 at h;split at h
 ·rename_i y s a b u c d q0 r;rcases br_some h with⟨h1,h2⟩|⟨_,h2⟩
  ·have h1:=AD h1;rw[<-h2];have hs:=(qs_lt h1.2.2.2.1.1 h1.2.2.2.1.2 h1.2.2.2.2.1.1 h1.2.2.2.2.1.2).1;have hq:=h1.2.2.2.2.2.2.2.2;exact go_div (S:=fun q r=>S17 y s a b u c d q r) (Sx:=fun q=>S17x y s a b u c d q) (fun q' r' R K=>round17 q R K y s a b u c d q' r') k 18446744073709551616 q0 r h1 (by omega)
  ·cases h2
 ·cases h⟩
theorem loop24:LoopOk C8 (l24 dvB):=⟨by kernel_rfl,fun q its k rr h=>by
 show rounds [2,8,9,10,14,15,16,17,18] (some [2,6,7,8,14,15,17,18]) (evCode C8 242 true (inl C8 (q+4)) (lbody C8.P 242 24)) 18446744073709551616 (bst (l24 dvB).p its) k=some rr;change G24 dvB its k=some rr at h;unfold G24 at h;split at h
 ·rename_i y s a b d q1 r u q0;rcases br_some h with⟨h1,h2⟩|⟨_,h2⟩
  ·have h1:=AD h1;rw[<-h2];have hs:=(qs_lt h1.2.2.2.1.1 h1.2.2.2.1.2 h1.2.2.2.2.1.1 h1.2.2.2.2.1.2).1;have hq:=h1.2.2.2.2.2.2.2.2;exact go_div (S:=fun q r=>S24 y s a b d q1 r u q) (Sx:=fun q=>S24x y s d q1 u q) (fun q' r' R K=>round24 q R K y s a b d q1 r' u q') k 18446744073709551616 q0 r h1 (by omega)
  ·cases h2
 ·cases h⟩
theorem C8_ok:CxOk C8:=mkCx_ok enter mixed (fun p h=>by
 simp only[A8,A7,or_false]at h;rcases h with rfl;exact den_lz) (fun l h=>by
 simp only[A8,A7,or_false]at h;rcases h with rfl|rfl
 ·exact loop17
 ·exact loop24)
def wu(n:Int):Int:=IntKind.u64.wrap n
def dv3(y s d q1 v q0:Int):OD:=br (decide (s<0)) none (some [.v (.int .u64 (wu (wu (q1*4294967296)+q0))),.v (.int .u64 ((wu (wu (wu (v*4294967296)+d)-wu (q0*y))).fdiv (2^min s.toNat 64)))])
def dv2(cd:Int->Int->Int->Int->Int->Int->Int->Bool)(y s a b d q1 v:Int):OD:=br (decide (a=0)) none (br (cd y a b v d (wu (v.tdiv a)) (wu (v-wu (wu (v.tdiv a)*a)))) (dv3 y s d q1 v ((v*4294967296+d)/y)) none)
def dv1(cd:Int->Int->Int->Int->Int->Int->Int->Bool)(y s a b u c d:Int):OD:=br (decide (a=0)) none (br (cd y a b u c (wu (u.tdiv a)) (wu (u-wu (wu (u.tdiv a)*a)))) (dv2 cd y s a b d ((u*4294967296+c)/y) (wu (wu (wu (u*4294967296)+c)-wu ((u*4294967296+c)/y*y)))) none)
def sh(x s:Int):Int:=wu (x*2^min s.toNat 64)
def sr(x s:Int):Int:=x.fdiv (2^min s.toNat 64)
def hiW(x:Int):Int:=x.fdiv (2^32)
def loW(x:Int):Int:=wu ((BitVec.ofInt 64 x&&&BitVec.ofInt 64 4294967295).toNat:Int)
def dv0(cd:Int->Int->Int->Int->Int->Int->Int->Bool)(h l y s:Int):OD:=br (decide (s<0)) none (br (decide (s<0)) none (br (decide (wu (64-s)<0)) none (br (decide (s<0)) none (dv1 cd (sh y s) s (hiW (sh y s)) (loW (sh y s)) (wu ((BitVec.ofInt 64 (sh h s)|||BitVec.ofInt 64 (sr l (wu (64-s)))).toNat:Int)) (hiW (sh l s)) (loW (sh l s))))))
def dvT(cd:Int->Int->Int->Int->Int->Int->Int->Bool)(h l y:Int):OD:=br (y==0) none (br (decide (y<=h)) none (br (h==0) (br (decide (y=0)) none (br (decide (y=0)) none (some [.v (.int .u64 (wu (l.tdiv y))),.v (.int .u64 (l.tmod y))]))) (br (uR y&&decide (0<y)) (dv0 cd h l y (wu (lzI y))) none)))
theorem tdv(cd:Int->Int->Int->Int->Int->Int->Int->Bool)(h l y:Int):evF (C8g cd) 6 242 [.v (u64 h),.v (u64 l),.v (u64 y)]=dvT cd h l y:=by kernel_rfl
theorem dv_init{Y a b u c:Int}(hb:0<=b∧b<4294967296)(ha:2147483648<=a∧a<4294967296)(hy:Y=a*4294967296+b)(hu:0<=u∧u<Y)(hc:0<=c∧c<4294967296):
  wu (u.tdiv a)=u/a∧wu (u-wu (u/a*a))=u-u/a*a∧dvP Y a b u c (u/a) (u-u/a*a):=by
 obtain⟨b0,b1⟩:=hb;obtain⟨a0,a1⟩:=ha;obtain⟨u0,u1⟩:=hu;obtain⟨c0,c1⟩:=hc;have e1:=Int.emod_nonneg u (show a≠0 by omega);have e2:=Int.emod_lt_of_pos u (show 0<a by omega);have e3:u/a*a=u-u%a:=by have:=Int.mul_ediv_add_emod u a;rw[Int.mul_comm]at this;omega
 have q0:0<=u/a:=Int.ediv_nonneg u0 (by omega);have q2:0<=u/a*a:=Int.mul_nonneg q0 (by omega);have q1:u/a<4294967298:=by rw[Int.ediv_lt_iff_lt_mul (by omega)];omega
 obtain⟨s0,s1⟩:=qs_lt u0 u1 c0 c1;have hL:∀t T Z:Int,0<Z->(t<=T/Z↔t*Z<=T):=fun _ _ _ h=>Int.le_ediv_iff_mul_le h;have hle:=hL ((u*4294967296+c)/Y) (u*4294967296+c) Y (by omega);have h1:=hle.mp (Int.le_refl _);have h2:=hL ((u*4294967296+c)/Y) u a (by omega);have h3:(u*4294967296+c)/Y*Y=(u*4294967296+c)/Y*a*4294967296+(u*4294967296+c)/Y*b:=by
  generalize(u*4294967296+c)/Y=t;rw[hy,q_mul]
 have h4:0<=(u*4294967296+c)/Y*b:=Int.mul_nonneg s0 b0;rw[h3]at h1;refine⟨?_,?_,⟨b0,b1⟩,⟨a0,a1⟩,hy,⟨u0,u1⟩,⟨c0,c1⟩,by omega,⟨by omega,by omega⟩,h2.mpr (by omega),by omega⟩
 ·rw[Int.tdiv_eq_ediv_of_nonneg u0];exact wrapU_id q0 (by omega)
 ·unfold wu;rw[wrapU_id (n:=u/a*a) (by omega) (by omega),wrapU_id (by omega) (by omega)]
theorem dv_rest{Y u c:Int}(hY:0<Y∧Y<18446744073709551616):wu (wu (wu (u*4294967296)+c)-wu ((u*4294967296+c)/Y*Y))=(u*4294967296+c)%Y:=by
 have e1:=Int.emod_nonneg (u*4294967296+c) (show Y≠0 by omega);have e2:=Int.emod_lt_of_pos (u*4294967296+c) hY.1;have e3:(u*4294967296+c)/Y*Y=u*4294967296+c-(u*4294967296+c)%Y:=by have:=Int.mul_ediv_add_emod (u*4294967296+c) Y;rw[Int.mul_comm]at this;omega
 generalize(u*4294967296+c)/Y*Y=Z at*
 generalize(u*4294967296+c)%Y=R at*
 simp only[wu,wrapU];omega
theorem orS(a b:Int)(s:Nat)(hs:s<=64)(k:Int)(hk:0<=k)(ha:a=k*2^s)(h1:a<18446744073709551616)(h3:0<=b)(h4:b<2^s)(h5:a+b<18446744073709551616):wu ((BitVec.ofInt 64 a|||BitVec.ofInt 64 b).toNat:Int)=a+b:=by
 obtain⟨k,rfl⟩:=Int.eq_ofNat_of_zero_le hk;obtain⟨m,rfl⟩:=Int.eq_ofNat_of_zero_le h3;have hm:m<2^s:=by
  have:((2:Int)^s)=((2^s:Nat):Int):=by rw[Int.natCast_pow];rfl
  rw[this]at h4;omega
 have ha':a=((k*2^s:Nat):Int):=by rw[ha,Int.natCast_mul,Int.natCast_pow];rfl
 rw[ha']at h1 h5⊢;have ea:(BitVec.ofInt 64 ((k*2^s:Nat):Int)).toNat=k*2^s:=by
  rw[BitVec.ofInt_natCast,BitVec.toNat_ofNat];exact Nat.mod_eq_of_lt (by omega)
 have eb:(BitVec.ofInt 64 (m:Int)).toNat=m:=by
  rw[BitVec.ofInt_natCast,BitVec.toNat_ofNat];exact Nat.mod_eq_of_lt (by omega)
 rw[BitVec.toNat_or,ea,eb];have e:k*2^s|||m=k*2^s+m:=by rw[<-Nat.shiftLeft_eq,<-Nat.shiftLeft_add_eq_or_of_lt hm]
 rw[e];clear ea eb e;generalize k*2^s=w at*
 unfold wu;rw[wrapU_id (n:=((w+m:Nat):Int)) (Int.natCast_nonneg _) (by omega)];exact Int.natCast_add _ _
def Fdv:FD
 |[.v (.int .u64 h),.v (.int .u64 l),.v (.int .u64 y)]=>some (uR h&&uR l&&uR y&&decide (h<y),[.v (u64 (wd h l/y)),.v (u64 (wd h l%y))])
 |_=>none
theorem dv_join{Y y p N u c d q1 v q0 r:Int}(hp:0<p)(hY:Y=y*p)(hN:N*p=u*18446744073709551616+(c*4294967296+d))(h1:u*4294967296+c=q1*Y+v)(h2:v*4294967296+d=q0*Y+r)(hr0:0<=r)(hr1:r<Y)(hy:0<y):
  N/y=q1*4294967296+q0∧N%y=r/p:=by
 have h3:N*p=(q1*4294967296+q0)*y*p+r:=by
  rw[Int.mul_assoc,<-hY,Int.add_mul,Int.mul_assoc q1,Int.mul_comm 4294967296 Y,<-Int.mul_assoc];omega
 generalize q1*4294967296+q0=Q at*
 have h4:r=(N-Q*y)*p:=by rw[Int.sub_mul];omega
 have h5:0<=N-Q*y:=by
  rcases Int.lt_or_le (N-Q*y) 0 with h|h
  ·have:=Int.mul_neg_of_neg_of_pos h hp;omega
  ·exact h
 have h6:N-Q*y<y:=by
  rw[h4,hY]at hr1;exact Int.lt_of_mul_lt_mul_right hr1 (Int.le_of_lt hp)
 have h7:N/y=Q:=by
  rw[show N=(N-Q*y)+Q*y by omega,Int.add_mul_ediv_right _ _ (by omega),Int.ediv_eq_zero_of_lt h5 h6,Int.zero_add]
 refine⟨h7,?_⟩;have h8:=Int.mul_ediv_add_emod N y;rw[h7,Int.mul_comm]at h8;rw[h4,Int.mul_ediv_cancel _ (by omega)];omega
theorem den_div64:Den Tryz.prog 242 Fdv:=evF_den C8_ok fun ds rs hh=>by
 unfold Fdv at hh;split at hh
 ·rename_i h l y;simp only[A5,A6,A2,uR_iff,A3]at hh;obtain⟨⟨⟨⟨⟨h0,h1⟩,l0,l1⟩,y0,y1⟩,hy⟩,rfl⟩:=hh;refine(tdv dvB h l y).trans ?_;unfold dvT;rw[show(y==0)=false from beq_eq_false_iff_ne.mpr (by omega),br_false,AB (show¬y<=h by omega),br_false,AB (show¬y=0 by omega)];by_cases hz:h=0
  ·subst hz;rw[show((0:Int)==0)=true from rfl,br_true,br_false,br_false,Int.tdiv_eq_ediv_of_nonneg l0,Int.tmod_eq_emod_of_nonneg l0,show wd 0 l=l by unfold wd;omega];have:=Int.ediv_nonneg l0 (show 0<=y by omega);have h9:=Int.ediv_le_self y l0;unfold wu;rw[wrapU_id (n:=l/y) (by omega) (by omega)];rfl
  ·rw[show(h==0)=false by simpa using hz,br_false,show(uR y&&decide (0<y))=true by simp only[A2,uR_iff,A3];omega,br_true];obtain⟨s,hs,s63,n0,n1⟩:=lz_spec y (by omega) y1;have hp:(0:Int)<2^s:=Int.pow_pos (by decide);have hm:(0:Int)<2^(64-s):=Int.pow_pos (by decide);have hpm:(2:Int)^(64-s)*2^s=18446744073709551616:=by rw[<-Int.pow_add,show 64-s+s=64 by omega];rfl
   unfold dv0;rw[hs,show wu (s:Int)=s from wrapU_id (by omega) (by omega),AB (show¬(s:Int)<0 by omega),show wu (64-(s:Int))=64-s from wrapU_id (by omega) (by omega),AB (show¬(64-(s:Int))<0 by omega)];rw[br_false,br_false,br_false,br_false];have k1:sh y s=y*2^s:=by
    unfold sh;rw[A9,Nat.min_eq_left (by omega)];exact wrapU_id (by omega) n1
   have hhY:h*2^s+2^s<=y*2^s:=by
    have:=Int.mul_le_mul_of_nonneg_right (show h+1<=y by omega) (Int.le_of_lt hp);rw[Int.add_mul,Int.one_mul]at this;exact this
   have hh0:0<=h*2^s:=Int.mul_nonneg h0 (Int.le_of_lt hp);have k2:sh h s=h*2^s:=by
    unfold sh;rw[A9,Nat.min_eq_left (by omega)];exact wrapU_id hh0 (by omega)
   have k3:sr l (64-(s:Int))=l/2^(64-s):=by
    unfold sr;rw[show(64-(s:Int)).toNat=64-s by omega,Nat.min_eq_left (by omega),Int.fdiv_eq_ediv_of_nonneg _ (Int.le_of_lt hm)]
   have d0:=Int.ediv_nonneg l0 (Int.le_of_lt hm);have d1:l/2^(64-s)<2^s:=by
    rw[Int.ediv_lt_iff_lt_mul hm,Int.mul_comm,hpm];exact l1
   have d2:=Int.mul_ediv_add_emod l (2^(64-s));have d3:=Int.emod_nonneg l (Int.ne_of_gt hm);have d4:=Int.emod_lt_of_pos l hm;have k4:l*2^s=(l/2^(64-s))*18446744073709551616+l%2^(64-s)*2^s:=by
    rw[<-hpm,<-Int.mul_assoc,<-Int.add_mul,Int.mul_comm (l/2^(64-s)),d2]
   have k5:0<=l%2^(64-s)*2^s:=Int.mul_nonneg d3 (Int.le_of_lt hp);have k6:l%2^(64-s)*2^s<18446744073709551616:=by rw[<-hpm];exact Int.mul_lt_mul_of_pos_right d4 hp
   have k7:sh l s=l%2^(64-s)*2^s:=by
    unfold sh wu;rw[A9,Nat.min_eq_left (by omega),wrapU,k4];omega
   rw[k1,k2,k3,k7];rw[orS (h*2^s) (l/2^(64-s)) s (by omega) h h0 rfl (by omega) d0 d1 (by omega)];have hN:wd h l*2^s=(h*2^s+l/2^(64-s))*18446744073709551616+l%2^(64-s)*2^s:=by
    unfold wd;rw[Int.add_mul,Int.mul_assoc h,Int.mul_comm 18446744073709551616,<-Int.mul_assoc,k4];omega
   generalize hY:y*2^s=Y at*
   generalize hU:h*2^s+l/2^(64-s)=u at*
   generalize hW:l%2^(64-s)*2^s=w at*
   have u0:0<=u∧u<Y:=by omega
   clear hhY hh0 k1 k2 k3 d0 d1 d2 d3 d4 k4 k7 hU hW hm hpm;have a1:hiW Y=Y/4294967296:=shrM Y (by omega);have a2:loW Y=Y%4294967296:=andM Y (by omega) (by omega);have a3:hiW w=w/4294967296:=shrM w (by omega);have a4:loW w=w%4294967296:=andM w (by omega) (by omega);rw[a1,a2,a3,a4];have hw:w=w/4294967296*4294967296+w%4294967296:=by omega
   have c0:0<=w/4294967296∧w/4294967296<4294967296:=by omega
   have c1:0<=w%4294967296∧w%4294967296<4294967296:=by omega
   generalize w/4294967296=c at*
   generalize w%4294967296=d at*
   have ha:2147483648<=Y/4294967296∧Y/4294967296<4294967296:=by omega
   have hb:0<=Y%4294967296∧Y%4294967296<4294967296:=by omega
   have hab:Y=Y/4294967296*4294967296+Y%4294967296:=by omega
   generalize Y/4294967296=a at*
   generalize Y%4294967296=b at*
   obtain⟨f1,f2,f3⟩:=dv_init hb ha hab u0 c0;have Y0:0<Y∧Y<18446744073709551616:=by omega
   have v0:0<=(u*4294967296+c)%Y∧(u*4294967296+c)%Y<Y:=⟨Int.emod_nonneg _ (by omega),Int.emod_lt_of_pos _ Y0.1⟩;obtain⟨g1,g2,g3⟩:=dv_init hb ha hab v0 c1;obtain⟨s1,s2⟩:=qs_lt u0.1 u0.2 c0.1 c0.2;obtain⟨t1,t2⟩:=qs_lt v0.1 v0.2 c1.1 c1.2;unfold dv1;rw[f1,f2,show dvB Y a b u c (u/a) (u-u/a*a)=true from A4 f3,AB (show¬a=0 by omega),br_false,br_true];unfold dv2;rw[dv_rest Y0,g1,g2,show dvB Y a b ((u*4294967296+c)%Y) d ((u*4294967296+c)%Y/a) ((u*4294967296+c)%Y-(u*4294967296+c)%Y/a*a)=true from A4 g3,AB (show¬a=0 by omega),br_false,br_true];unfold dv3;rw[dv_rest Y0,AB (show¬(s:Int)<0 by omega),br_false,A9,Nat.min_eq_left (by omega),Int.fdiv_eq_ediv_of_nonneg _ (Int.le_of_lt hp)];have e1:=Int.mul_ediv_add_emod (u*4294967296+c) Y;have e2:=Int.mul_ediv_add_emod ((u*4294967296+c)%Y*4294967296+d) Y;rw[Int.mul_comm]at e1 e2;obtain⟨j1,j2⟩:=dv_join (N:=wd h l) (u:=u) (c:=c) (d:=d) hp hY.symm (by rw[hN];omega) e1.symm e2.symm (Int.emod_nonneg _ (by omega)) (Int.emod_lt_of_pos _ Y0.1) (by omega);rw[<-j2,j1];generalize(u*4294967296+c)/Y=q1 at*
   generalize((u*4294967296+c)%Y*4294967296+d)/Y=q0 at*
   unfold wu;rw[wrapU_id (n:=q1*4294967296) (by omega) (by omega),wrapU_id (n:=q1*4294967296+q0) (by omega) (by omega)];rfl
 ·cases hh
noncomputable def C9:Cx:=mkCx Tryz.prog fns [(242,Fdv)] []
theorem C9_ok:CxOk C9:=mkCx_ok enter mixed (fun p h=>by
 simp only[A8,A7,or_false]at h;obtain rfl:=h;exact den_div64) (fun l h=>by cases h)
theorem trem(h l y:Int):evF C9 6 241 [.v (u64 h),.v (u64 l),.v (u64 y)]=br (y=0) none (br (uR (h.tmod y)&&uR l&&uR y&&h.tmod y<y) (some [.v (.int .u64 (wd (h.tmod y) l%y))]) none):=by kernel_rfl
def Frem:FD
 |[.v (.int .u64 h),.v (.int .u64 l),.v (.int .u64 y)]=>some (uR h&&uR l&&uR y&&decide (0<y),[.v (u64 (wd h l%y))])
 |_=>none
theorem den_rem:Den Tryz.prog 241 Frem:=evF_den C9_ok fun ds rs hh=>by
 unfold Frem at hh;split at hh
 ·rename_i h l y;simp only[A5,A6,A2,uR_iff,A3]at hh;obtain⟨⟨⟨⟨⟨h0,h1⟩,l0,l1⟩,y0,y1⟩,hy⟩,rfl⟩:=hh;refine(trem h l y).trans ?_;have e1:=Int.emod_nonneg h (show y≠0 by omega);have e2:=Int.emod_lt_of_pos h hy;rw[Int.tmod_eq_emod_of_nonneg h0,AB (show¬y=0 by omega),br_false,show(uR (h%y)&&uR l&&uR y&&decide (h%y<y))=true by simp only[A2,uR_iff,A3];omega,br_true];have e3:wd h l=wd (h%y) l+y*(h/y*18446744073709551616):=by
   have:=Int.mul_ediv_add_emod h y;unfold wd;rw[<-Int.mul_assoc];omega
  rw[e3,Int.add_mul_emod_self_left];rfl
 ·cases hh
noncomputable def C12s:Cx:=mkCx Tryz.prog fns [(138,Fgcd),(137,Fsize),(144,Fboth),(158,Fsigned),(171,Fmul),(242,Fdv),(241,Frem),(170,Fcmpi),(173,Fcmpu)] [] [(239,Xadd),(240,Xsub)]
theorem C12s_ok:CxOk C12s:=fun wb=>mkCx_okX (W:=fun _=>True) enter mixed (fun p h=>by
 simp only[A8,A7,or_false]at h;rcases h with rfl|rfl|rfl|rfl|rfl|rfl|rfl|rfl|rfl
 ·exact den_gcd.at _
 ·exact den_size.at _
 ·exact den_check.at _
 ·exact den_signed.at _
 ·exact den_mul.at _
 ·exact den_div64.at _
 ·exact den_rem.at _
 ·exact den_cmpi.at _
 ·exact den_cmpu.at _) (fun l h=>by cases h) (fun p h=>by
 simp only[A8,A7,or_false]at h;rcases h with rfl|rfl
 ·exact ext_add
 ·exact ext_sub) wb trivial
def adE16:OD:=some [.agg [.v (i64 0),.v (i64 0)],.v (i64 16)]
def adZ:OD:=some [.agg [.v (i64 0),.v (i64 1)],.v (i64 0)]
def adT3(neg:Bool)(N M:Int):OD:=br (uR N&&uR M) (some [.agg [.v (i64 (mkN neg N M)),.v (i64 (mkD N M))],.v (i64 (mkE N M))]) none
def adT2(d e g:Int)(neg:Bool)(hi lo h:Int):OD:=br (decide (hi>=h)) adE16 (br (uR hi&&uR lo&&uR h&&decide (hi<h)) (br (decide (g=0)) none (br (decide (h=0)) none (br (uR (wu (d.tdiv g))&&uR (wu (e.tdiv h))) (br (decide (wu (d.tdiv g)*wu (e.tdiv h)/18446744073709551616>0)) adE16 (adT3 neg (wd hi lo/h) (wu (d.tdiv g)*wu (e.tdiv h)%18446744073709551616))) none))) none)
def adT1(d e g:Int)(neg:Bool)(hi lo:Int):OD:=br (uR hi&&uR lo&&uR g&&decide (0<g)) (br (uR (wd hi lo%g)&&uR g) (adT2 d e g neg hi lo (gcdI (wd hi lo%g) g)) none) none
def adT0(d e g:Int)(neg:Bool)(hi lo:Int):OD:=br (hi==0) (br (lo==0) adZ (adT1 d e g neg hi lo)) (adT1 d e g neg hi lo)
def adSub(d e g:Int)(neg:Bool)(xh xl yh yl:Int):OD:=br (uR xl&&uR yl&&(decide ((0:Int)<=0)&&decide ((0:Int)<=1))) (br (uR xh&&uR yh&&(decide (0<=bor xl (yl+0))&&decide (bor xl (yl+0)<=1))) (adT0 d e g neg ((xh-yh-bor xl (yl+0))%18446744073709551616) ((xl-yl-0)%18446744073709551616)) none) none
def adMain(n d m e g xh xl yh yl:Int):OD:=br (decide (n<0)==decide (m<0)) (br (uR xl&&uR yl&&(decide ((0:Int)<=0)&&decide ((0:Int)<=1))) (br (uR xh&&uR yh&&(decide (0<=(xl+yl+0)/18446744073709551616)&&decide ((xl+yl+0)/18446744073709551616<=1))) (adT0 d e g (decide (n<0)) ((xh+yh+(xl+yl+0)/18446744073709551616)%18446744073709551616) ((xl+yl+0)%18446744073709551616)) none) none) (br (decide (xh<yh)) (adSub d e g (!decide (n<0)) yh yl xh xl) (br (xh==yh) (br (decide (xl<yl)) (adSub d e g (!decide (n<0)) yh yl xh xl) (adSub d e g (decide (n<0)) xh xl yh yl)) (adSub d e g (decide (n<0)) xh xl yh yl)))
def adG(n m d e g:Int)(k:Int->Int->OD):OD:=br (uR d&&uR e) (br (iR n) (br (decide (g=0)) none (br (uR (absI n)&&uR (wu (e.tdiv g))) (br (iR m) (br (decide (g=0)) none (br (uR (absI m)&&uR (wu (d.tdiv g))) (k (absI n*wu (e.tdiv g)) (absI m*wu (d.tdiv g))) none)) none) none)) none) none
def adP(n d m e:Int):OD:=br (iR n&&iR d&&iR m&&iR e) (br (chk2 n d m e !=0) (some [.agg [.v (i64 0),.v (i64 0)],.v (i64 (chk2 n d m e))]) (adG n m (wu d) (wu e) (gcdI (wu d) (wu e)) fun x y=>adMain n (wu d) m (wu e) (gcdI (wu d) (wu e)) (x/18446744073709551616) (x%18446744073709551616) (y/18446744073709551616) (y%18446744073709551616))) none
theorem taddp(n d m e:Int):evF C12s 6 200 [.agg [.v (i64 n),.v (i64 d)],.agg [.v (i64 m),.v (i64 e)]]=adP n d m e:=by kernel_rfl
theorem gcdI_emod(A g:Int)(hA:0<=A)(hg:0<g):gcdI (A%g) g=gcdI A g:=by
 obtain⟨a,rfl⟩:=Int.eq_ofNat_of_zero_le hA;obtain⟨b,rfl⟩:=Int.eq_ofNat_of_zero_le (Int.le_of_lt hg);unfold gcdI;rw[<-Int.natCast_emod,A9,A9,A9,Nat.gcd_comm,Nat.gcd_comm a b,Nat.gcd_rec b a,Nat.gcd_comm]
theorem gcdI_le(a b:Int)(hb:0<b):gcdI a b<=b:=Int.le_of_dvd hb (gcdI_dvd2 a b (Int.le_of_lt hb))
def fin(neg:Bool)(A d e:Int):OD:=if A=0 then adZ else some [.agg [.v (i64 (mkN neg (A/gcdI A (gcdI d e)) (d/gcdI d e*(e/gcdI A (gcdI d e))))),.v (i64 (mkD (A/gcdI A (gcdI d e)) (d/gcdI d e*(e/gcdI A (gcdI d e)))))],.v (i64 (mkE (A/gcdI A (gcdI d e)) (d/gcdI d e*(e/gcdI A (gcdI d e)))))]
theorem fin_bad{neg:Bool}{A d e:Int}(hA:A≠0)(h:1000000000000000000<A/gcdI A (gcdI d e)∨1000000000000000000<d/gcdI d e*(e/gcdI A (gcdI d e))):fin neg A d e=adE16:=by
 unfold fin;obtain⟨z1,z2,z3⟩:=mk_bad h neg;rw[AL hA,z1,z2,z3];rfl
theorem ad_facts{A d e:Int}(hA:0<=A)(hd:1<=d∧d<=1000000000000000000)(he:1<=e∧e<=1000000000000000000):
  (0<gcdI d e∧gcdI d e<=1000000000000000000)∧(0<gcdI A (gcdI d e)∧gcdI A (gcdI d e)<=1000000000000000000)∧wu (d.tdiv (gcdI d e))=d/gcdI d e∧wu (e.tdiv (gcdI d e))=e/gcdI d e∧wu (e.tdiv (gcdI A (gcdI d e)))=e/gcdI A (gcdI d e)∧
   (0<=d/gcdI d e∧d/gcdI d e<=1000000000000000000)∧(0<=e/gcdI d e∧e/gcdI d e<=1000000000000000000)∧(0<=e/gcdI A (gcdI d e)∧e/gcdI A (gcdI d e)<=1000000000000000000)∧gcdI (A%gcdI d e) (gcdI d e)=gcdI A (gcdI d e):=by
 have g1:=gcdI_pos d e (by omega) (by omega);have g2:=gcdI_le d e (by omega);have h1:=gcdI_pos A (gcdI d e) hA g1;have h2:=gcdI_le A (gcdI d e) g1;obtain⟨p1,p2,p3,p4⟩:=quo d _ (by omega) (by omega) g1;obtain⟨q1,q2,q3,q4⟩:=quo e _ (by omega) (by omega) g1;obtain⟨r1,r2,r3,r4⟩:=quo e _ (by omega) (by omega) h1;exact⟨⟨g1,by omega⟩,⟨h1,by omega⟩,p1,q1,r1,⟨p2,by omega⟩,⟨q2,by omega⟩,⟨r2,by omega⟩,gcdI_emod A _ hA g1⟩
theorem adT1_eq{A d e:Int}(neg:Bool)(hA:0<A∧A<340282366920938463463374607431768211456)(hd:1<=d∧d<=1000000000000000000)(he:1<=e∧e<=1000000000000000000):
  adT1 d e (gcdI d e) neg (A/18446744073709551616) (A%18446744073709551616)=fin neg A d e:=by
 obtain⟨⟨g1,g2⟩,⟨h1,h2⟩,p1,p2,p3,⟨b1,b2⟩,_,⟨c1,c2⟩,hh⟩:=ad_facts (A:=A) (by omega) hd he;unfold adT1;have e1:=Int.emod_nonneg A (show gcdI d e≠0 by omega);have e2:=Int.emod_lt_of_pos A g1;rw[wd_parts,hh,show(uR (A/18446744073709551616)&&uR (A%18446744073709551616)&&uR (gcdI d e)&&decide (0<gcdI d e))=true by simp only[A2,uR_iff,A3];omega,
  show(uR (A%gcdI d e)&&uR (gcdI d e))=true by simp only[A2,uR_iff];omega,br_true,br_true]
 unfold adT2;rw[wd_parts,p1,p3];obtain⟨x1,x2⟩:=mul_most b1 b2 c1 c2;have hle:∀t,t<=A/gcdI A (gcdI d e)↔t*gcdI A (gcdI d e)<=A:=fun t=>Int.le_ediv_iff_mul_le h1;have hlt:∀t,A/gcdI A (gcdI d e)<t↔A<t*gcdI A (gcdI d e):=fun t=>Int.ediv_lt_iff_lt_mul h1;by_cases hb:A/18446744073709551616>=gcdI A (gcdI d e)
 ·rw[A4 hb,br_true,fin_bad (by omega) (.inl (by have:=(hle 18446744073709551616).mpr (by omega);omega))]
 ·have hN:=(hlt 18446744073709551616).mpr (by omega);have hN0:=Int.ediv_nonneg (show 0<=A by omega) (Int.le_of_lt h1);rw[AB hb,br_false,show(uR (A/18446744073709551616)&&uR (A%18446744073709551616)&&uR (gcdI A (gcdI d e))&&decide (A/18446744073709551616<gcdI A (gcdI d e)))=true by simp only[A2,uR_iff,A3];omega,
   br_true,AB (show¬gcdI d e=0 by omega),br_false,AB (show¬gcdI A (gcdI d e)=0 by omega),br_false,show(uR (d/gcdI d e)&&uR (e/gcdI A (gcdI d e)))=true by simp only[A2,uR_iff];omega,br_true]
  by_cases ho:d/gcdI d e*(e/gcdI A (gcdI d e))/18446744073709551616>0
  ·rw[A4 ho,br_true,fin_bad (by omega) (.inr (by omega))]
  ·rw[AB ho,br_false,show d/gcdI d e*(e/gcdI A (gcdI d e))%18446744073709551616=d/gcdI d e*(e/gcdI A (gcdI d e)) by omega];unfold adT3 fin;rw[AL (by omega),show(uR (A/gcdI A (gcdI d e))&&uR (d/gcdI d e*(e/gcdI A (gcdI d e))))=true by simp only[A2,uR_iff];omega,br_true]
theorem adT0_eq{A d e:Int}(neg:Bool)(hA:0<=A∧A<340282366920938463463374607431768211456)(hd:1<=d∧d<=1000000000000000000)(he:1<=e∧e<=1000000000000000000):
  adT0 d e (gcdI d e) neg (A/18446744073709551616) (A%18446744073709551616)=fin neg A d e:=by
 unfold adT0;by_cases h0:A=0
 ·subst h0;unfold fin;rw[AM rfl];rfl
 ·rw[adT1_eq neg (by omega) hd he];by_cases h1:A/18446744073709551616=0
  ·rw[show(A/18446744073709551616==0)=true by simpa using h1,br_true,show(A%18446744073709551616==0)=false from beq_eq_false_iff_ne.mpr (by omega),br_false]
  ·rw[show(A/18446744073709551616==0)=false by simpa using h1,br_false]
def adX(n d e:Int):Int:=absI n*(e/gcdI d e)
def adY(m d e:Int):Int:=absI m*(d/gcdI d e)
def adA(n d m e:Int):Int:=if decide (n<0)=decide (m<0)then adX n d e+adY m d e else if adX n d e<adY m d e then adY m d e-adX n d e else adX n d e-adY m d e
def adNg(n d m e:Int):Bool:=if decide (n<0)=decide (m<0)then decide (n<0)else if adX n d e<adY m d e then !decide (n<0)else decide (n<0)
def adN(n d m e:Int):Int:=if chk2 n d m e=0 then(if adA n d m e=0 then 0 else mkN (adNg n d m e) (adA n d m e/gcdI (adA n d m e) (gcdI d e)) (d/gcdI d e*(e/gcdI (adA n d m e) (gcdI d e))))else 0
def adD(n d m e:Int):Int:=if chk2 n d m e=0 then(if adA n d m e=0 then 1 else mkD (adA n d m e/gcdI (adA n d m e) (gcdI d e)) (d/gcdI d e*(e/gcdI (adA n d m e) (gcdI d e))))else 0
def adE(n d m e:Int):Int:=if chk2 n d m e=0 then(if adA n d m e=0 then 0 else mkE (adA n d m e/gcdI (adA n d m e) (gcdI d e)) (d/gcdI d e*(e/gcdI (adA n d m e) (gcdI d e))))else chk2 n d m e
def Fadd:FD
 |[.agg [.v (.int .i64 n),.v (.int .i64 d)],.agg [.v (.int .i64 m),.v (.int .i64 e)]]=>some (iR n&&iR d&&iR m&&iR e,[.agg [.v (i64 (adN n d m e)),.v (i64 (adD n d m e))],.v (i64 (adE n d m e))])
 |_=>none
theorem ad_fin{n d m e:Int}(hc:chk2 n d m e=0):fin (adNg n d m e) (adA n d m e) d e=some [.agg [.v (i64 (adN n d m e)),.v (i64 (adD n d m e))],.v (i64 (adE n d m e))]:=by
 unfold fin adN adD adE;rw[AM hc,AM hc,AM hc];by_cases h:adA n d m e=0
 ·rw[AM h,AM h,AM h,AM h];rfl
 ·rw[AL h,AL h,AL h,AL h]
theorem ad_err{n d m e:Int}(hc:chk2 n d m e≠0):(some [.agg [.v (i64 0),.v (i64 0)],.v (i64 (chk2 n d m e))]:OD)=some [.agg [.v (i64 (adN n d m e)),.v (i64 (adD n d m e))],.v (i64 (adE n d m e))]:=by
 unfold adN adD adE;rw[AL hc,AL hc,AL hc]
theorem ad_bndq{n d m e:Int}(hc:chk2 n d m e=0):(1<=d∧d<=1000000000000000000)∧(1<=e∧e<=1000000000000000000)∧(0<=absI n∧absI n<=1000000000000000000)∧(0<=absI m∧absI m<=1000000000000000000)∧
  (0<=adX n d e∧adX n d e<=1000000000000000000000000000000000000)∧(0<=adY m d e∧adY m d e<=1000000000000000000000000000000000000)∧iR n=true∧iR m=true:=by
 obtain⟨⟨⟨d1,d2⟩,⟨n1,n2⟩,_⟩,⟨e1,e2⟩,⟨m1,m2⟩,_⟩:=chk2_good hc;have⟨a1,a0⟩:=absI_or n;have⟨b1,b0⟩:=absI_or m;obtain⟨_,_,_,_,_,⟨p1,p2⟩,⟨q1,q2⟩,_,_⟩:=ad_facts (A:=0) (by omega) ⟨d1,d2⟩ ⟨e1,e2⟩;exact⟨⟨d1,d2⟩,⟨e1,e2⟩,⟨a1,by omega⟩,⟨b1,by omega⟩,mul_most a1 (by omega) q1 q2,mul_most b1 (by omega) p1 p2,iR_iff.mpr (by omega),iR_iff.mpr (by omega)⟩
theorem adG_eq{n d m e:Int}(hc:chk2 n d m e=0)(k:Int->Int->OD):adG n m d e (gcdI d e) k=k (adX n d e) (adY m d e):=by
 obtain⟨⟨d1,d2⟩,⟨e1,e2⟩,⟨n1,n2⟩,⟨m1,m2⟩,_,_,h7,h8⟩:=ad_bndq hc;obtain⟨⟨g1,g2⟩,_,f1,f2,_,⟨p1,p2⟩,⟨q1,q2⟩,_,_⟩:=ad_facts (A:=0) (by omega) ⟨d1,d2⟩ ⟨e1,e2⟩;unfold adG adX adY;rw[f1,f2,show(uR d&&uR e)=true by simp only[A2,uR_iff];omega,br_true,h7,br_true,AB (show¬gcdI d e=0 by omega),br_false,show(uR (absI n)&&uR (e/gcdI d e))=true by simp only[A2,uR_iff];omega,br_true,
  h8,br_true,br_false,show(uR (absI m)&&uR (d/gcdI d e))=true by simp only[A2,uR_iff];omega,br_true]
theorem adSub_eq{A d e x y:Int}(neg:Bool)(hx:0<=x∧x<=1000000000000000000000000000000000000)(hy:0<=y∧y<=x)(hd:1<=d∧d<=1000000000000000000)(he:1<=e∧e<=1000000000000000000):
  adSub d e (gcdI d e) neg (x/18446744073709551616) (x%18446744073709551616) (y/18446744073709551616) (y%18446744073709551616)=fin neg (x-y) d e:=by
 unfold adSub;have hb:bor (x%18446744073709551616) (y%18446744073709551616+0)=0∧¬x%18446744073709551616<y%18446744073709551616∨bor (x%18446744073709551616) (y%18446744073709551616+0)=1∧x%18446744073709551616<y%18446744073709551616:=by
  unfold bor;split
  ·exact .inr ⟨rfl,by omega⟩
  ·exact .inl ⟨rfl,by omega⟩
 generalize bor (x%18446744073709551616) (y%18446744073709551616+0)=b at*
 rw[show(x/18446744073709551616-y/18446744073709551616-b)%18446744073709551616=(x-y)/18446744073709551616 by omega,show(x%18446744073709551616-y%18446744073709551616-0)%18446744073709551616=(x-y)%18446744073709551616 by omega,
  adT0_eq neg (by omega) hd he,show(uR (x%18446744073709551616)&&uR (y%18446744073709551616)&&(decide ((0:Int)<=0)&&decide ((0:Int)<=1)))=true by simp only[A2,uR_iff,A3];omega,br_true,
  show(uR (x/18446744073709551616)&&uR (y/18446744073709551616)&&(decide (0<=b)&&decide (b<=1)))=true by simp only[A2,uR_iff,A3];omega,br_true]
theorem adMain_eq{n d m e:Int}(hc:chk2 n d m e=0):adMain n d m e (gcdI d e) (adX n d e/18446744073709551616) (adX n d e%18446744073709551616) (adY m d e/18446744073709551616) (adY m d e%18446744073709551616)=fin (adNg n d m e) (adA n d m e) d e:=by
 obtain⟨hd,he,_,_,hx,hy,_,_⟩:=ad_bndq hc;unfold adMain adNg adA;generalize adX n d e=x at*
 generalize adY m d e=y at*
 by_cases hs:decide (n<0)=decide (m<0)
 ·rw[AM hs,AM hs,show(decide (n<0)==decide (m<0))=true by simpa using hs,br_true,show(x/18446744073709551616+y/18446744073709551616+(x%18446744073709551616+y%18446744073709551616+0)/18446744073709551616)%18446744073709551616=(x+y)/18446744073709551616 by omega,
   show(x%18446744073709551616+y%18446744073709551616+0)%18446744073709551616=(x+y)%18446744073709551616 by omega,adT0_eq _ (by omega) hd he,
   show(uR (x%18446744073709551616)&&uR (y%18446744073709551616)&&(decide ((0:Int)<=0)&&decide ((0:Int)<=1)))=true by simp only[A2,uR_iff,A3];omega,br_true,
   show(uR (x/18446744073709551616)&&uR (y/18446744073709551616)&&(decide (0<=(x%18446744073709551616+y%18446744073709551616+0)/18446744073709551616)&&decide ((x%18446744073709551616+y%18446744073709551616+0)/18446744073709551616<=1)))=true by simp only[A2,uR_iff,A3];omega,br_true]
 ·rw[AL hs,AL hs,show(decide (n<0)==decide (m<0))=false by simpa using hs,br_false];by_cases hxy:x<y
  ·rw[AM hxy,AM hxy,adSub_eq (A:=0) _ hy (by omega) hd he];refine br_splitP (fun _=>rfl) (fun h1=>br_split (fun h2=>br_splitP (fun _=>rfl) (fun h3=>?_)) (fun h2=>?_))
   ·have h2:x/18446744073709551616=y/18446744073709551616:=by simpa using h2
    omega
   ·have h2:x/18446744073709551616≠y/18446744073709551616:=by simpa using h2
    omega
  ·rw[AL hxy,AL hxy,adSub_eq (A:=0) _ hx (by omega) hd he];refine br_splitP (fun h1=>?_) (fun h1=>br_split (fun h2=>br_splitP (fun h3=>?_) (fun h3=>rfl)) (fun h2=>rfl))
   ·omega
   ·have h2:x/18446744073709551616=y/18446744073709551616:=by simpa using h2
    omega
theorem den_addp:Den Tryz.prog 200 Fadd:=evF_den C12s_ok fun ds rs h=>by
 unfold Fadd at h;split at h
 ·rename_i n d m e;simp only[A5,A6]at h;obtain⟨h0,rfl⟩:=h;refine(taddp n d m e).trans ?_;unfold adP;rw[h0,br_true];by_cases hc:chk2 n d m e=0
  ·obtain⟨hd,he,_,_,_,_,_,_⟩:=ad_bndq hc;rw[show(chk2 n d m e !=0)=false by simpa using hc,br_false,show wu d=d from wrapU_id (by omega) (by omega),show wu e=e from wrapU_id (by omega) (by omega),adG_eq hc,adMain_eq hc,ad_fin hc]
  ·rw[show(chk2 n d m e !=0)=true by simpa using hc,br_true,ad_err hc]
 ·cases h
noncomputable def C13:Cx:=mkCx Tryz.prog fns [(144,Fboth),(200,Fadd)] []
theorem C13_ok:CxOk C13:=mkCx_ok enter mixed (fun p h=>by
 simp only[A8,A7,or_false]at h;rcases h with rfl|rfl
 ·exact den_check
 ·exact den_addp) (fun l h=>by cases h)
theorem tsubp(n d m e:Int):evF C13 6 204 [.agg [.v (i64 n),.v (i64 d)],.agg [.v (i64 m),.v (i64 e)]]=br (iR n&&iR d&&iR m&&iR e) (br (chk2 n d m e !=0) (some [.agg [.v (i64 0),.v (i64 0)],.v (i64 (chk2 n d m e))]) (br (iR n&&iR d&&iR (IntKind.i64.wrap (0-m))&&iR e) (some [.agg [.v (i64 (adN n d (IntKind.i64.wrap (0-m)) e)),.v (i64 (adD n d (IntKind.i64.wrap (0-m)) e))],.v (i64 (adE n d (IntKind.i64.wrap (0-m)) e))]) none)) (none):=by kernel_rfl
def sbN(n d m e:Int):Int:=if chk2 n d m e=0 then adN n d (-m) e else 0
def sbD(n d m e:Int):Int:=if chk2 n d m e=0 then adD n d (-m) e else 0
def sbE(n d m e:Int):Int:=if chk2 n d m e=0 then adE n d (-m) e else chk2 n d m e
def Fsub:FD
 |[.agg [.v (.int .i64 n),.v (.int .i64 d)],.agg [.v (.int .i64 m),.v (.int .i64 e)]]=>some (iR n&&iR d&&iR m&&iR e,[.agg [.v (i64 (sbN n d m e)),.v (i64 (sbD n d m e))],.v (i64 (sbE n d m e))])
 |_=>none
theorem den_subp:Den Tryz.prog 204 Fsub:=evF_den C13_ok fun ds rs h=>by
 unfold Fsub at h;split at h
 ·rename_i n d m e;simp only[A5,A6]at h;obtain⟨h0,rfl⟩:=h;refine(tsubp n d m e).trans ?_;unfold sbN sbD sbE;rw[h0,br_true];simp only[A2]at h0;obtain⟨⟨⟨h1,h2⟩,h3⟩,h4⟩:=h0;by_cases hc:chk2 n d m e=0
  ·obtain⟨_,_,⟨m1,m2⟩,_⟩:=chk2_good hc;rw[show(chk2 n d m e !=0)=false by simpa using hc,br_false,AM hc,AM hc,AM hc,wrapI_id (n:=0-m) (by omega) (by omega),Int.zero_sub,show(iR n&&iR d&&iR (-m)&&iR e)=true by
    simp only[A2];exact⟨⟨⟨h1,h2⟩,iR_iff.mpr (by omega)⟩,h4⟩,br_true]
  ·rw[show(chk2 n d m e !=0)=true by simpa using hc,br_true,AL hc,AL hc,AL hc]
 ·cases h
end Go.Proofs.YtkcnkimndhgkgaaGreatDoor.Rt
namespace Go.Proofs
open Go.Shelf
def Tryz.laysG_ren:Go.Shelf.Ren:=⟨fun|4=>183|n=>n,fun|22=>44|25=>43|n=>n,fun|n=>n⟩
theorem Tryz.laysG:Lays8.n4 Tryz.prog Tryz.laysG_ren:={
 mixed:=by kernel_rfl
 f4:=⟨"slices.Grow[[]parcener/api.Span,parcener/api.Span]",by decide,Tryz.func183.trans (congrArg some (by kernel_rfl))⟩
 t0:=Tryz.underlying0
 a0:=Tryz.isAgg0
 z0:=Tryz.sizeOf0
 v0:=Tryz.zeroValue0
 t3:=Tryz.underlying3
 a3:=Tryz.isAgg3
 z3:=Tryz.sizeOf3
 v3:=Tryz.zeroValue3
 t4:=Tryz.underlying4
 a4:=Tryz.isAgg4
 z4:=Tryz.sizeOf4
 v4:=Tryz.zeroValue4
 t9:=Tryz.underlying9
 a9:=Tryz.isAgg9
 z9:=Tryz.sizeOf9
 v9:=Tryz.zeroValue9
 t20:=Tryz.underlying20
 a20:=Tryz.isAgg20
 z20:=Tryz.sizeOf20
 v20:=Tryz.zeroValue20
 t22:=Tryz.underlying44
 a22:=Tryz.isAgg44
 z22:=Tryz.sizeOf44
 v22:=Tryz.zeroValue44}
end Go.Proofs
namespace Go.Proofs.YtkcnkimndhgkgaaGreatDoor
open Go.Ev Go.RowKit
def kS4:List CK:=[.int .i64,.int .i64,.int .i64,.int .i64]
theorem drew_bl(w:World):Below w.heap.size w w.drew:=⟨rfl,rfl,rfl,AC _,fun _ _=>rfl⟩
theorem info_span:(Tryz.prog.info? 43).map (fun i=>(i.zero,i.size,i.bytes))=some (some (.agg #[.int .i64 0,.int .i64 0,.int .i64 0,.int .i64 0]),4,32):=by kernel_rfl
def Fgrow(args:List Value)(σ:St):Option (Bool×Value×St):=match args with
 |[.slice none 0 0,.int .i64 n]=>some (decide (0<n∧n<=1000000),.slice (some ⟨σ.mem.length,0,some 0⟩) 0 0,{σ with mem:=σ.mem++[some (.row kS4 true Row.nil)]})
 |_=>none
theorem grow_iat(wb:World):IAt Tryz.prog wb 183 Fgrow:=by
 intro w0 hw0 args σ v σ1 hF a cs w ρ cargs hR hV;unfold Fgrow at hF;split at hF
 ·rename_i n;simp only[A5,A6,A3]at hF;obtain⟨⟨h0,h1⟩,rfl,rfl⟩:=hF;obtain⟨i0,hi,his⟩:=Option.map_eq_some_iff.1 info_span;simp only[A6]at his;obtain⟨hz,hs,hby⟩:=his;obtain⟨c1,cs1,rfl,v1,hV⟩:=hV.inv;obtain⟨c2,cs2,rfl,v2,hV⟩:=hV.inv;obtain rfl:=hV.nil_inv;cases v1 with
  |@sliceNil ad=>
  cases v2 with
  |int=>
  obtain⟨k,rfl⟩:∃k:Nat,n=k:=⟨n.toNat,by omega⟩;refine(Any8.slices_Grow_grow Tryz.laysG i0 _ hi hz (by omega) ad 0 0 k [] w (AC 0) (by omega) (by rw[hby];omega) (by omega) (by simp) (fun _=>rfl) (fun a _ j v hj=>by simp at hj)).mono fun e w' ⟨he,hw'⟩=>?_;have hB:w0.heap.size<=w.heap.size:=hR.below.size;have hG:0+k<=grownCap w (0+k) 0 (Tryz.laysG_ren.t 25):=grownCap_ge w _ _ _;generalize grownCap w (0+k) 0 (Tryz.laysG_ren.t 25)=G at he hw' hG;refine⟨_,Map.snoc ρ σ.mem.length ⟨w.heap.size,0,4,G,0,true,s0⟩,he,?_,?_⟩
  ·have hm:=MemR.newRow hR.mem hB (ks:=kS4) (r:=Row.nil) (T:=Tryz.laysG_ren.t 25) (tot:=G) (w1:=w.drew) (c:= #[]++Builtin.zeroCells (Value.agg #[.int .i64 0,.int .i64 0,.int .i64 0,.int .i64 0]).cells (0+k-0)++Builtin.zeroCells (Value.agg #[.int .i64 0,.int .i64 0,.int .i64 0,.int .i64 0]).cells (G-(0+k))) (drew_bl w) rfl ?_ (Nat.zero_le _) (fun _ _=>undef) (fun e j k he hk=>absurd he (Nat.not_lt_zero e)) (fun e j k he hk=>absurd he (Nat.not_lt_zero e))
   ·rw[hw'];exact⟨hR.defers,hR.tmps.mono (by simp) (fun id hid=>.inl (Map.snoc_old hid)),hR.saved.mono (by simp) (fun id hid=>.inl (Map.snoc_old hid)),hR.below.trans ((((drew_bl w).alloc (AC _) _)).mono hB),hm⟩
   ·show G*4<=_;have hc4:(Value.agg #[.int .i64 0,.int .i64 0,.int .i64 0,.int .i64 0]).cells.size=4:=rfl;simp only[Array.size_append,size_zeroCells,hc4];show _<=0+_+_;omega
  ·exact V.newRow (ks:=kS4) (by rw[AG];exact Nat.lt_succ_self _) (Nat.zero_le _) (AC _)
 ·cases hF
end Go.Proofs.YtkcnkimndhgkgaaGreatDoor

/- A part of the proof of PrintTexts. No conditions. -/
import Derived.Test.YtnljjjghpgdmoaaGreatDoorXap
import Derived.Lib.AtoiAll
set_option linter.all false
namespace Go.Proofs.YtnljjjghpgdmoaaGreatDoor
open Go.Ev
set_option maxRecDepth 100000
def Fof:FD
 |[.v (.int .i64 n)]=>some (true,[.agg [.v (i64 n),.v (i64 1)]])
 |_=>none
noncomputable def Cof:Cx:=AP Tryz.prog fns [] []
def Akm:Be Cof:=Aj enter mixed AX AX
def uof(n:Int):BH Cof 6 172 [.v (i64 n)]=some [.agg [.v (i64 n),.v (i64 1)]]:=k_
def Ag7:Den Tryz.prog 172 Fof:=Af Akm fun ds rs h=>by
 unfold Fof at h;split at h
 ·cases h;exact uof _
 ·cases h
def Fpt:FD
 |[.v (.int .i64 n),.agg [.v (.int .i64 a),.v (.int .i64 b)]]=>some (Rt.iR n&&Rt.iR a&&Rt.iR b,[.v (.bool (dF n a b))])
 |_=>none
noncomputable def Cpt:Cx:=AP Tryz.prog fns [(172,Fof),(96,Rt.Fchk),(134,Ab1)] []
def Afy:Be Cpt:=Aj enter mixed (Aw Ag7<|Aw Rt.den_chkr<|Aw QR AX) AX
def upt(n a b:Int):BH Cpt 6 135 [.v (i64 n),.agg [.v (i64 a),.v (i64 b)]]=br (Rt.iR a&&Rt.iR b) (br (Rt.chkE a b==0) (br (a>=0) (br (Rt.iR n&&Rt.iR 1&&Rt.iR a&&Rt.iR b) (some [.v (.bool (!F8 n 1 a b))]) none) (some [.v (.bool false)])) (some [.v (.bool false)])) (none):=k_
def Aje:Den Tryz.prog 135 Fpt:=Af Afy fun ds rs h=>by
 unfold Fpt at h;split at h
 ·rename_i n a b;simp only[A5,A6,A2]at h;obtain⟨⟨⟨h1,h2⟩,h3⟩,rfl⟩:=h;refine(upt n a b).trans ?_;rw[h1,h2,h3,show Rt.iR 1=true from rfl];unfold dF;cases Rt.chkE a b==0<;>cases decide (a>=0)<;>cases F8 n 1 a b<;>rfl
 ·cases h
def bQ:Dl:={τ:=[.v (.int .i64),.v (.sl 0)]++pu 3++[.v (.int .i64)]++pu 24,saved:=[[]],mem:=[.row Qw false]}
structure A_lwt where
 ln:Int
 n:Nat
 j:Int
 r:Row
def kQ(its:List It):Option A_lwt:=match its with|[.i ln,.n n,.i j,.r r]=>some ⟨ln,n,j,r⟩|_=>none
def lS(x:A_lwt):Bool:=x.j=0∧x.n<=1000000∧(∀i,i<x.n->Nq x.r i=true)∧Rt.iR x.ln=true
def c_lwt_iff{x:A_lwt}:=@Bl _ lS _ _ rfl x
def lwt:ScanL A_lwt:=⟨95,2,[0,1,5],[4],bQ,kQ,fun x j=>[.i x.ln,.n x.n,.i (j:Int),.r x.r],fun x=>x.n,lS,fun x j=>Qn x.ln x.r j,fun x j K=>K .ret ⟨us 4++[.bool false]++us 25,[[]],[]⟩,fun x K=>K (.exit 0) ⟨us 30,[[]],[]⟩⟩
noncomputable def Cwt:Cx:=AP Tryz.prog fns [(135,Fpt)] [lwt.C]
def Aee(R:St->OD)(K:X->St->OD)(q:Nat)(ln:Int)(n:Nat)(j:Int)(r:Row):Ak Cwt 95 2 q (bst bQ [.i ln,.n n,.i j,.r r]) (BF [0,1,5] (some [4]) R K)=br (j<(n:Int)) (br (0<=j&&j<(n:Int)) (br (Rt.iR ln&&Rt.iR (r.I (0+j.toNat) 0)&&Rt.iR (r.I (0+j.toNat) 1)) (br (!dF ln (r.I (0+j.toNat) 0) (r.I (0+j.toNat) 1)) (lwt.Kb ⟨ln,n,j,r⟩ 0 K) (br (0<=j&&j<(n:Int)) (br (Rt.iR ln&&Rt.iR (r.I (0+j.toNat) 2)&&Rt.iR (r.I (0+j.toNat) 3)) (br (!dF ln (r.I (0+j.toNat) 2) (r.I (0+j.toNat) 3)) (lwt.Kb ⟨ln,n,j,r⟩ 0 K) (R (bst bQ [.i ln,.n n,.i (IntKind.i64.wrap (j+1)),.r r]))) none) none)) none) none) (lwt.Ke ⟨ln,n,j,r⟩ K):=k_
def uwt(n:Int)(r:Row):BH Cwt 6 95 [.v (i64 n),.slice Qw r]=br (lS (⟨n,r.n,0,r⟩:A_lwt)) (br (Ag (fun j=>Qn n r j) r.n 0) (some [.v (.bool false)]) (some [.v (.bool true)])) (none):=k_
def Agn:Ah Cwt lwt.C:=lwt.ok k_
 (fun its x h hc=>by
  replace h:kQ its=some x:=h;unfold kQ at h;split at h
  ·cases h;have h:=c_lwt_iff.1 hc;dsimp only at h;obtain⟨rfl,_⟩:=h;rfl
  ·cases h)
 (fun x hc=>by have:=c_lwt_iff.1 hc;show x.n<2^64;omega)
 (fun q ⟨ln,n,j0,r⟩ j hc hi R K=>by
  obtain⟨h1,h2,h3,h4⟩:=c_lwt_iff.1 hc;dsimp only at*
  replace hi:j<n:=hi;refine(Aee R K q ln n ((j:Int)) r).trans ?_;have k1:=h3 j hi;unfold Nq at k1;simp only[A2]at k1;rw[A9,AE j,gd j n hi,DX j n hi,Eg o_,h4,k1.1.1.1,k1.1.1.2,k1.1.2,k1.2];show br (!dF ln (r.I j 0) (r.I j 1)) _ (br (!dF ln (r.I j 2) (r.I j 3)) _ _)=br (Qn ln r j) _ _;unfold Qn;cases dF ln (r.I j 0) (r.I j 1)<;>cases dF ln (r.I j 2) (r.I j 3)<;>rfl)
 (fun q ⟨ln,n,j0,r⟩ hc R K=>by
  obtain⟨h1,h2,h3,h4⟩:=c_lwt_iff.1 hc;dsimp only at*
  refine(Aee R K q ln n ((n:Int)) r).trans ?_;rw[EU n];rfl)
def Am5:Be Cwt:=Aj enter mixed (Aw Aje AX) (Aw Agn AX)
def Fwt:FD
 |[.v (.int .i64 n),.slice [.int .i64,.int .i64,.int .i64,.int .i64] r]=>some (decide (r.n<=1000000∧(∀i,i<r.n->Nq r i=true)∧Rt.iR n=true),[.v (.bool (Zw n r))])
 |_=>none
def Alr:Den Tryz.prog 95 Fwt:=Af Am5 fun ds rs h=>by
 unfold Fwt at h;split at h
 ·rename_i n r;simp only[A5,A6,A3]at h;obtain⟨h0,rfl⟩:=h;refine(uwt n r).trans ?_;rw[c_lwt_iff.2 ⟨rfl,h0⟩,Aa];unfold Zw;show br (Ag (Qn n r) r.n 0) _ _=_;cases Ag (Qn n r) r.n 0<;>rfl
 ·cases h
def ZF(r s:Row)(j:Nat):Bool:= !Zw (r.I 0 0) (w_ (s.R j 0) 0 (s.R j 0).n)
def oN:Dl:={τ:=[.v (.sl 0)]++pu 2++[.v (.c (.pointer (some ⟨1,0,some 0⟩)))]++pu 2++[.v (.int .i64)]++pu 48,saved:=[[]],mem:=[.row DV false,.box [.v (.sl 2)],.row Fh false]}
structure A_lq7 where
 rn:Nat
 j:Int
 r:Row
 n:Nat
 s:Row
def cZ(its:List It):Option A_lq7:=match its with|[.n rn,.i j,.r r,.n n,.r s]=>some ⟨rn,j,r,n,s⟩|_=>none
def nK(x:A_lq7):Bool:=x.j=0∧x.n<=1000000∧SpP x.s x.n
def c_lq7_iff{x:A_lq7}:=@Bl _ nK _ _ rfl x
def lq7:ScanL A_lq7:=⟨42,7,[0,3,6],[0,3,4],oN,cZ,fun x j=>[.n x.rn,.i (j:Int),.r x.r,.n x.n,.r x.s],fun x=>x.n,nK,fun x j=>IW x.s j !=0,fun x j K=>K .ret ⟨[S_ 0 0 x.rn]++us 2++[.pointer (some ⟨1,0,some 0⟩),i64 (IW x.s j)]++us 50,[[]],[Au DV x.r,some (.box [S_ 2 0 x.n]),Au Fh x.s]⟩,fun x K=>K (.exit 0) ⟨[S_ 0 0 x.rn]++us 2++[.pointer (some ⟨1,0,some 0⟩)]++us 51,[[]],[Au DV x.r,some (.box [S_ 2 0 x.n]),Au Fh x.s]⟩⟩
def Xc:Dl:={τ:=[.v (.sl 0)]++pu 2++[.v (.c (.pointer (some ⟨1,0,some 0⟩)))]++pu 4++[.v (.int .i64)]++pu 46,saved:=[[]],mem:=[.row DV false,.box [.v (.sl 2)],.row Fh false]}
structure A_lq13 where
 rn:Nat
 j:Int
 r:Row
 n:Nat
 s:Row
def VK(its:List It):Option A_lq13:=match its with|[.n rn,.i j,.r r,.n n,.r s]=>some ⟨rn,j,r,n,s⟩|_=>none
def VC(x:A_lq13):Bool:=x.j=0∧x.n<=1000000∧SpP x.s x.n∧1<=x.rn∧Rt.iR (x.r.I 0 0)=true
def c_lq13_iff{x:A_lq13}:=@Bl _ VC _ _ rfl x
def lq13:ScanL A_lq13:=⟨42,13,[0,3,8],[4],Xc,VK,fun x j=>[.n x.rn,.i (j:Int),.r x.r,.n x.n,.r x.s],fun x=>x.n,VC,fun x j=>ZF x.r x.s j,fun x j K=>K .ret ⟨us 4++[i64 2]++us 50,[[]],[]⟩,fun x K=>K (.exit 2) ⟨us 55,[[]],[]⟩⟩
noncomputable def Cq7:Cx:=AP Tryz.prog fns [(93,Z5),(94,ZN),(95,Fwt)] [lq7.C,lq13.C]
def Afb(R:St->OD)(K:X->St->OD)(q rn:Nat)(j:Int)(r:Row)(n:Nat)(s:Row):Ak Cq7 42 7 q (bst oN [.n rn,.i j,.r r,.n n,.r s]) (BF [0,3,6] (some [0,3,4]) R K)=br (j<(n:Int)) (br (0<=j&&j<(n:Int)) (br (decide ((w_ (s.R (0+j.toNat) 0) 0 (s.R (0+j.toNat) 0).n).n<=1000000∧∀(i:Nat),i<(w_ (s.R (0+j.toNat) 0) 0 (s.R (0+j.toNat) 0).n).n->Nq (w_ (s.R (0+j.toNat) 0) 0 (s.R (0+j.toNat) 0).n) i=true)) (br (NF (w_ (s.R (0+j.toNat) 0) 0 (s.R (0+j.toNat) 0).n) !=0) (K .ret ⟨[S_ 0 0 rn]++us 2++[.pointer (some ⟨1,0,some 0⟩),i64 (NF (w_ (s.R (0+j.toNat) 0) 0 (s.R (0+j.toNat) 0).n))]++us 50,[[]],[Au DV r,some (.box [S_ 2 0 n]),Au Fh s]⟩) (R (bst oN [.n rn,.i (IntKind.i64.wrap (j+1)),.r r,.n n,.r s]))) none) none) (lq7.Ke ⟨rn,j,r,n,s⟩ K):=k_
def jO(R:St->OD)(K:X->St->OD)(q rn:Nat)(j:Int)(r:Row)(n:Nat)(s:Row):Ak Cq7 42 13 q (bst Xc [.n rn,.i j,.r r,.n n,.r s]) (BF [0,3,8] (some [4]) R K)=br (j<(n:Int)) (br ((0:Int)<=0&&0<(rn:Int)) (br (0<=j&&j<(n:Int)) (br (decide ((w_ (s.R (0+j.toNat) 0) 0 (s.R (0+j.toNat) 0).n).n<=1000000∧(∀(i:Nat),i<(w_ (s.R (0+j.toNat) 0) 0 (s.R (0+j.toNat) 0).n).n->Nq (w_ (s.R (0+j.toNat) 0) 0 (s.R (0+j.toNat) 0).n) i=true)∧Rt.iR (r.I (0+0) 0)=true)) (br (!Zw (r.I 0 0) (w_ (s.R (0+j.toNat) 0) 0 (s.R (0+j.toNat) 0).n)) (lq13.Kb ⟨rn,j,r,n,s⟩ 0 K) (R (bst Xc [.n rn,.i (IntKind.i64.wrap (j+1)),.r r,.n n,.r s]))) none) none) none) (lq13.Ke ⟨rn,j,r,n,s⟩ K):=k_
def uq7(r s:Row):BH Cq7 6 42 [.slice DV r,.agg [.slice Fh s]]=br (decide ((w_ r 0 r.n).n<=1000000∧CkP (w_ r 0 r.n) (w_ r 0 r.n).n∧Row.nil.n<=2000)) (br (J3 (w_ r 0 r.n) !=0) (some [.v (i64 (J3 (w_ r 0 r.n)))]) (br ((s.n:Int) !=(r.n:Int)) (some [.v (i64 2)]) (br (nK (⟨r.n,0,r,s.n,s⟩:A_lq7)) (br (Ag (fun j=>IW s j !=0) s.n 0) (some [.v (i64 (IW s (FZ (fun j=>IW s j !=0) s.n 0)))]) (br (VC (⟨r.n,0,r,s.n,s⟩:A_lq13)) (br (Ag (fun j=>ZF r s j) s.n 0) (some [.v (i64 2)]) (some [.v (i64 0)])) none)) none))) (none):=k_
def Akz:Ah Cq7 lq7.C:=lq7.ok k_
 (fun its x h hc=>by
  replace h:cZ its=some x:=h;unfold cZ at h;split at h
  ·cases h;have h:=c_lq7_iff.1 hc;dsimp only at h;obtain⟨rfl,_⟩:=h;rfl
  ·cases h)
 (fun x hc=>by have:=c_lq7_iff.1 hc;show x.n<2^64;omega)
 (fun q ⟨rn,j0,r,n,s⟩ j hc hi R K=>by
  obtain⟨h1,h2,h3⟩:=c_lq7_iff.1 hc;dsimp only at*
  replace hi:j<n:=hi;refine(Afb R K q rn ((j:Int)) r n s).trans ?_;have k1:=h3 j hi;rw[A9,AE j,gd j n hi,DX j n hi,Eg o_,A4 (show(w_ (s.R j 0) 0 (s.R j 0).n).n<=1000000∧∀i,i<(w_ (s.R j 0) 0 (s.R j 0).n).n->Nq (w_ (s.R j 0) 0 (s.R j 0).n) i=true by rw[wn_];exact⟨k1.1,fun i hi=>by rw[Og];exact k1.2 i hi⟩)];rfl)
 (fun q ⟨rn,j0,r,n,s⟩ hc R K=>by
  obtain⟨h1,h2,h3⟩:=c_lq7_iff.1 hc;dsimp only at*
  refine(Afb R K q rn ((n:Int)) r n s).trans ?_;rw[EU n];rfl)
def Ac7:Ah Cq7 lq13.C:=lq13.ok k_
 (fun its x h hc=>by
  replace h:VK its=some x:=h;unfold VK at h;split at h
  ·cases h;have h:=c_lq13_iff.1 hc;dsimp only at h;obtain⟨rfl,_⟩:=h;rfl
  ·cases h)
 (fun x hc=>by have:=c_lq13_iff.1 hc;show x.n<2^64;omega)
 (fun q ⟨rn,j0,r,n,s⟩ j hc hi R K=>by
  obtain⟨h1,h2,h3,h4,h5⟩:=c_lq13_iff.1 hc;dsimp only at*
  replace hi:j<n:=hi;refine(jO R K q rn ((j:Int)) r n s).trans ?_;have k1:=h3 j hi;rw[A9,AE j,gd j n hi,DX j n hi,Eg o_,show(decide ((0:Int)<=0)&&decide ((0:Int)<(rn:Int)))=true by simp;omega,A4 (show(w_ (s.R j 0) 0 (s.R j 0).n).n<=1000000∧(∀i,i<(w_ (s.R j 0) 0 (s.R j 0).n).n->Nq (w_ (s.R j 0) 0 (s.R j 0).n) i=true)∧Rt.iR (r.I 0 0)=true by rw[wn_];exact⟨k1.1,fun i hi=>by rw[Og];exact k1.2 i hi,h5⟩)];rfl)
 (fun q ⟨rn,j0,r,n,s⟩ hc R K=>by
  obtain⟨h1,h2,h3,h4,h5⟩:=c_lq13_iff.1 hc;dsimp only at*
  refine(jO R K q rn ((n:Int)) r n s).trans ?_;rw[EU n];rfl)
def Am8:Be Cq7:=Aj enter mixed (Aw Aby<|Aw yZ<|Aw Alr AX) (Aw Akz<|Aw Ac7 AX)
def Aco{r s:Row}{j:Nat}(hn:1<=r.I 0 0∧r.I 0 0<=1000)(h:IW s j=0):ZF r s j=Qr r s j:=by
 unfold ZF;rw[Aiu hn h,Bool.not_not];unfold Ahi Qr;rw[Al8,wn_]
def yO:Den Tryz.prog 42 (FPc ND Qh):=Af Am8 fun ds rs h=>by
 unfold FPc at h;split at h
 ·rename_i r s;simp only[A5,A6]at h;obtain⟨h0,rfl⟩:=h;obtain⟨g1,g2,g3,g4⟩:=AD h0;refine(uq7 r s).trans ?_;refine Fp (A4 ⟨by rw[wn_];exact g1,fun i hi=>g2 i hi,Nat.zero_le _⟩) ?_;rw[c_lq7_iff.2 ⟨rfl,g3,g4⟩,Aa];refine Cb fun h1=>Cb fun h2=>Cb fun h3=>?_;have ha:J3 r=0:=by simpa using(show(J3 r !=0)=false from h1)
  obtain⟨a1,_,a3,_⟩:=QZ ha;have l1:=LQ (a3 0 o_);have l1:1<=r.I 0 0∧r.I 0 0<=1000:=l1;refine Fp (c_lq13_iff.2 ⟨rfl,g3,g4,a1,Rt.iR_iff.2 ?_⟩) ?_
  ·show-9223372036854775808<=r.I 0 0∧r.I 0 0<9223372036854775808;omega
  have he:Ag (ZF r s) s.n 0=Ag (Qr r s) s.n 0:=JS fun i _ hi=>Aco l1 (by
   have:=anyF_false.1 (show Ag (fun j=>IW s j !=0) s.n 0=false from h3) i (Nat.zero_le _) hi;simpa using this)
  show br (Ag (ZF r s) s.n 0) _ _=_;rw[he];exact Cb fun h4=>rfl
 ·cases h
def Xf:Dl:={τ:=[.v (.sl 0)]++pu 2++[.v (.int .i64),.v (.int .i64),.v (.int .i64)]++pu 41,saved:=[[]],mem:=[.row Cc false]}
structure A_lz10 where
 n:Nat
 m:Int
 i:Int
 j:Int
 r:Row
def Vz(its:List It):Option A_lz10:=match its with|[.n n,.i m,.i i,.i j,.r r]=>some ⟨n,m,i,j,r⟩|_=>none
def OE(x:A_lz10):Bool:=x.j=0∧x.n<=1000000∧x.m=(x.n:Int)∧0<=x.i∧x.i<(x.n:Int)∧(x.r.R x.i.toNat 0).n=x.n
def c_lz10_iff{x:A_lz10}:=@Bl _ OE _ _ rfl x
def lz10:ScanL A_lz10:=⟨97,10,[0,3,4,5],[0,2,3,4],Xf,Vz,fun x j=>[.n x.n,.i x.m,.i x.i,.i (j:Int),.r x.r],fun x=>x.n,OE,fun x j=>RV ((x.r.R x.i.toNat 0).I j 0),fun x j K=>K .ret ⟨[S_ 0 0 x.n]++us 1++[i64 8,i64 x.m,i64 x.i]++us 42,[[]],[Au Cc x.r]⟩,fun x K=>K (.exit 2) ⟨[S_ 0 0 x.n]++us 2++[i64 x.m,i64 x.i]++us 42,[[]],[Au Cc x.r]⟩⟩
def nZ:Dl:={τ:=[.v (.sl 0)]++pu 2++[.v (.int .i64),.v (.int .i64)]++pu 42,saved:=[[]],mem:=[.row Cc false]}
structure A_lz5 where
 n:Nat
 m:Int
 j:Int
 r:Row
def bJ(its:List It):Option A_lz5:=match its with|[.n n,.i m,.i j,.r r]=>some ⟨n,m,j,r⟩|_=>none
def lU(x:A_lz5):Bool:=x.j=0∧x.n<=1000000∧x.m=(x.n:Int)∧VaP x.r x.n
def c_lz5_iff{x:A_lz5}:=@Bl _ lU _ _ rfl x
def lz5:ScanL A_lz5:=⟨97,5,[0,3,4],[2,3],nZ,bJ,fun x j=>[.n x.n,.i x.m,.i (j:Int),.r x.r],fun x=>x.n,lU,fun x j=>Jt x.r x.n j,fun x j K=>K .ret ⟨us 2++[i64 8,i64 x.m]++us 43,[[]],[]⟩,fun x K=>K (.exit 0) ⟨us 3++[i64 x.m]++us 43,[[]],[]⟩⟩
noncomputable def Cz5:Cx:=AP Tryz.prog fns [] [lz10.C,lz5.C]
def fM(R:St->OD)(K:X->St->OD)(q n:Nat)(m i j:Int)(r:Row):Ak Cz5 97 10 q (bst Xf [.n n,.i m,.i i,.i j,.r r]) (BF [0,3,4,5] (some [0,2,3,4]) R K)=br (j<m) (br (0<=i&&i<(n:Int)) (br (0<=j&&j<(↑(r.R (0+i.toNat) 0).n:Int)) (br ((r.R (0+i.toNat) 0).I (0+j.toNat) 0<0) (lz10.Kb ⟨n,m,i,j,r⟩ 0 K) (br (0<=i&&i<(n:Int)) (br (0<=j&&j<(↑(r.R (0+i.toNat) 0).n:Int)) (br ((r.R (0+i.toNat) 0).I (0+j.toNat) 0>1000000) (lz10.Kb ⟨n,m,i,j,r⟩ 0 K) (R (bst Xf [.n n,.i m,.i i,.i (IntKind.i64.wrap (j+1)),.r r]))) none) none)) none) none) (lz10.Ke ⟨n,m,i,j,r⟩ K):=k_
def Adt(R:St->OD)(K:X->St->OD)(q n:Nat)(m j:Int)(r:Row):Ak Cz5 97 5 q (bst nZ [.n n,.i m,.i j,.r r]) (BF [0,3,4] (some [2,3]) R K)=br (j<m) (br (0<=j&&j<(n:Int)) (br ((↑(r.R (0+j.toNat) 0).n:Int) !=m) (lz5.Kb ⟨n,m,j,r⟩ 0 K) (br (OE (⟨n,m,j,0,r⟩:A_lz10)) (br (Ag (fun j_1=>RV ((r.R j.toNat 0).I j_1 0)) n 0) (lz5.Kb ⟨n,m,j,r⟩ 0 K) (R (bst nZ [.n n,.i m,.i (IntKind.i64.wrap (j+1)),.r r]))) none)) none) (lz5.Ke ⟨n,m,j,r⟩ K):=k_
def uz5(r:Row):BH Cz5 6 97 [.slice Oc r]=br ((r.n:Int)>6) (some [.v (i64 4)]) (br (lU (⟨r.n,(r.n:Int),0,r⟩:A_lz5)) (br (Ag (fun j=>Jt r r.n j) r.n 0) (some [.v (i64 8)]) (br ((r.n:Int)==0) (some [.v (i64 8)]) (some [.v (i64 0)]))) none):=k_
def Abm:Ah Cz5 lz10.C:=lz10.ok k_
 (fun its x h hc=>by
  replace h:Vz its=some x:=h;unfold Vz at h;split at h
  ·cases h;have h:=c_lz10_iff.1 hc;dsimp only at h;obtain⟨rfl,_⟩:=h;rfl
  ·cases h)
 (fun x hc=>by have:=c_lz10_iff.1 hc;show x.n<2^64;omega)
 (fun q ⟨n,m,i,j0,r⟩ j hc hi R K=>by
  obtain⟨h1,h2,h3,h4,h5,h6⟩:=c_lz10_iff.1 hc;dsimp only at*
  replace hi:j<n:=hi;refine(fM R K q n m i ((j:Int)) r).trans ?_;rw[A9,AE i.toNat,AE j,h3,h6,gd j n hi,show(decide (0<=i)&&decide (i<(n:Int)))=true by rw[A4 h4,A4 h5];rfl,DX j n hi,Eg o_];show br (decide ((r.R i.toNat 0).I j 0<0)) _ (br (decide ((r.R i.toNat 0).I j 0>1000000)) _ _)=br (RV ((r.R i.toNat 0).I j 0)) _ _;exact(Fz _ _ _ _).symm)
 (fun q ⟨n,m,i,j0,r⟩ hc R K=>by
  obtain⟨h1,h2,h3,h4,h5,h6⟩:=c_lz10_iff.1 hc;dsimp only at*
  refine(fM R K q n m i ((n:Int)) r).trans ?_;rw[h3,AB (show¬(n:Int)<(n:Int) by omega)];rfl)
def Ahh:Ah Cz5 lz5.C:=lz5.ok k_
 (fun its x h hc=>by
  replace h:bJ its=some x:=h;unfold bJ at h;split at h
  ·cases h;have h:=c_lz5_iff.1 hc;dsimp only at h;obtain⟨rfl,_⟩:=h;rfl
  ·cases h)
 (fun x hc=>by have:=c_lz5_iff.1 hc;show x.n<2^64;omega)
 (fun q ⟨n,m,j0,r⟩ j hc hi R K=>by
  obtain⟨h1,h2,h3,h4⟩:=c_lz5_iff.1 hc;dsimp only at*
  replace hi:j<n:=hi;refine(Adt R K q n m ((j:Int)) r).trans ?_;rw[A9,AE j,h3,gd j n hi,DX j n hi,Eg o_];by_cases hl:(r.R j 0).n=n
  ·have hc:OE ⟨n,(n:Int),(j:Int),0,r⟩=true:=c_lz10_iff.2 ⟨rfl,h2,rfl,Int.natCast_nonneg j,by show(j:Int)<(n:Int);omega,by show(r.R ((j:Int)).toNat 0).n=n;rw[A9];exact hl⟩;have hb:Jt r n j=Ag (fun k=>RV ((r.R j 0).I k 0)) n 0:=by unfold Jt Ib;rw[hl];simp
   show br (((r.R j 0).n:Int) !=(n:Int)) _ (br (OE ⟨n,(n:Int),(j:Int),0,r⟩) (br (Ag (fun k=>RV ((r.R ((j:Int)).toNat 0).I k 0)) n 0) _ _) none)=br (Jt r n j) _ _;rw[hc,A9,show(((r.R j 0).n:Int) !=(n:Int))=false by simp;omega,hb];rfl
  ·have e:(((r.R j 0).n:Int) !=(n:Int))=true:=z_;have hb:Jt r n j=true:=by unfold Jt;rw[e];rfl
   show br (((r.R j 0).n:Int) !=(n:Int)) _ _=br (Jt r n j) _ _;rw[e,hb];rfl)
 (fun q ⟨n,m,j0,r⟩ hc R K=>by
  obtain⟨h1,h2,h3,h4⟩:=c_lz5_iff.1 hc;dsimp only at*
  refine(Adt R K q n m ((n:Int)) r).trans ?_;rw[h3,AB (show¬(n:Int)<(n:Int) by omega)];rfl)
def Aht:Be Cz5:=Aj enter mixed AX (Aw Abm<|Aw Ahh AX)
def jW:Den Tryz.prog 97 X7:=Af Aht fun ds rs h=>by
 unfold X7 at h;split at h
 ·rename_i r;simp only[A5,A6]at h;obtain⟨h0,rfl⟩:=h;have h0:=AD h0;refine(uz5 r).trans ?_;rw[c_lz5_iff.2 ⟨rfl,h0.1,rfl,h0.2⟩,Aa];unfold Fg;cases decide ((r.n:Int)>6)
  ·show br (Ag (Jt r r.n) r.n 0) _ (br ((r.n:Int)==0) _ _)=some [D.v (i64 (bif (r.n:Int)==0 then 8 else bif Ag (Jt r r.n) r.n 0 then 8 else 0))];cases Ag (Jt r r.n) r.n 0<;>cases((r.n:Int)==0)<;>rfl
  ·rfl
 ·cases h
noncomputable def Aoa:Cx:=AP Tryz.prog fns [(97,X7)] []
def zM:Be Aoa:=Aj enter mixed (Aw jW AX) AX
def Aqi(r:Row)(n:Int):BH Aoa 6 46 [.agg [.slice Oc r,.v (i64 n)]]=br (GR (w_ r 0 r.n)) (br (Fg (w_ r 0 r.n) !=0) (br (GR (w_ r 0 r.n)) (some [.v (i64 (Fg (w_ r 0 r.n)))]) none) (br (n<0) (some [.v (i64 8)]) (br (n>10000000) (some [.v (i64 8)]) (some [.v (i64 0)])))) (none):=k_
def UG:Den Tryz.prog 46 (yS Ho Fv):=Af zM fun ds rs h=>by
 unfold yS at h;split at h
 ·rename_i r n;simp only[A5,A6]at h;obtain⟨h0,rfl⟩:=h;have h0:GR (w_ r 0 r.n)=true:=h0;refine(Aqi r n).trans ?_;rw[h0,Aa];show _=some [D.v (i64 (Fv r n))];unfold Fv;show br (Fg r !=0) (br true (some [D.v (i64 (Fg r))]) none) (br (decide (n<0)) _ (br (decide (n>10000000)) _ _))=_;cases hq:Fg r !=0
  ·cases decide (n<0)<;>cases decide (n>10000000)<;>rfl
  ·rfl
 ·cases h
def uK:Dl:={τ:=[.v (.sl 0),.v (.int .i64)]++pu 3++[.v (.int .i64),.v (.int .i64)]++pu 30,saved:=[[]],mem:=[.row Es false]}
structure A_ly9 where
 n:Nat
 m:Int
 i:Int
 j:Int
 r:Row
def iM(its:List It):Option A_ly9:=match its with|[.n n,.i m,.i i,.i j,.r r]=>some ⟨n,m,i,j,r⟩|_=>none
def Um(x:A_ly9):Bool:=x.j=0∧x.n<=1000000∧x.m=(x.n:Int)∧0<=x.i∧x.i<(x.n:Int)∧(x.r.R x.i.toNat 0).n=x.n∧Rg2 (x.r.R x.i.toNat 0) x.n
def c_ly9_iff{x:A_ly9}:=@Bl _ Um _ _ rfl x
def ly9:ScanL A_ly9:=⟨43,9,[0,1,5,6],[0,1,4,5],uK,iM,fun x j=>[.n x.n,.i x.m,.i x.i,.i (j:Int),.r x.r],fun x=>x.n,Um,fun x j=>Rt.chkE ((x.r.R x.i.toNat 0).I j 0) ((x.r.R x.i.toNat 0).I j 1) !=0,fun x j K=>K .ret ⟨[S_ 0 0 x.n,i64 x.m]++us 2++[.bool false,i64 x.i]++us 31,[[]],[Au Es x.r]⟩,fun x K=>K (.exit 2) ⟨[S_ 0 0 x.n,i64 x.m]++us 3++[i64 x.i]++us 31,[[]],[Au Es x.r]⟩⟩
def lN:Dl:={τ:=[.v (.sl 0),.v (.int .i64)]++pu 3++[.v (.int .i64)]++pu 31,saved:=[[]],mem:=[.row Es false]}
structure A_ly4 where
 n:Nat
 m:Int
 j:Int
 r:Row
def rD(its:List It):Option A_ly4:=match its with|[.n n,.i m,.i j,.r r]=>some ⟨n,m,j,r⟩|_=>none
def vN(x:A_ly4):Bool:=x.j=0∧x.n<=1000000∧x.m=(x.n:Int)∧SqP x.r x.n
def c_ly4_iff{x:A_ly4}:=@Bl _ vN _ _ rfl x
def ly4:ScanL A_ly4:=⟨43,4,[0,1,5],[4],lN,rD,fun x j=>[.n x.n,.i x.m,.i (j:Int),.r x.r],fun x=>x.n,vN,fun x j=>JZ (x.r.R j 0)||((x.r.R j 0).n:Int) !=x.m,fun x j K=>K .ret ⟨us 4++[.bool false]++us 32,[[]],[]⟩,fun x K=>K (.exit 0) ⟨us 37,[[]],[]⟩⟩
noncomputable def Cy4:Cx:=AP Tryz.prog fns [(96,Rt.Fchk)] [ly9.C,ly4.C]
def Aej(R:St->OD)(K:X->St->OD)(q n:Nat)(m i j:Int)(r:Row):Ak Cy4 43 9 q (bst uK [.n n,.i m,.i i,.i j,.r r]) (BF [0,1,5,6] (some [0,1,4,5]) R K)=br (j<m) (br (0<=i&&i<(n:Int)) (br (0<=j&&j<(↑(r.R (0+i.toNat) 0).n:Int)) (br (Rt.iR ((r.R (0+i.toNat) 0).I (0+j.toNat) 0)&&Rt.iR ((r.R (0+i.toNat) 0).I (0+j.toNat) 1)) (br (Rt.chkE ((r.R (0+i.toNat) 0).I (0+j.toNat) 0) ((r.R (0+i.toNat) 0).I (0+j.toNat) 1) !=0) (ly9.Kb ⟨n,m,i,j,r⟩ 0 K) (R (bst uK [.n n,.i m,.i i,.i (IntKind.i64.wrap (j+1)),.r r]))) none) none) none) (ly9.Ke ⟨n,m,i,j,r⟩ K):=k_
def Adk(R:St->OD)(K:X->St->OD)(q n:Nat)(m j:Int)(r:Row):Ak Cy4 43 4 q (bst lN [.n n,.i m,.i j,.r r]) (BF [0,1,5] (some [4]) R K)=br (j<m) (br (0<=j&&j<(n:Int)) (br ((↑(r.R (0+j.toNat) 0).n:Int) !=m) (ly4.Kb ⟨n,m,j,r⟩ 0 K) (br (Um (⟨n,m,j,0,r⟩:A_ly9)) (br (Ag (fun j_1=>Rt.chkE ((r.R j.toNat 0).I j_1 0) ((r.R j.toNat 0).I j_1 1) !=0) n 0) (ly4.Kb ⟨n,m,j,r⟩ 0 K) (R (bst lN [.n n,.i m,.i (IntKind.i64.wrap (j+1)),.r r]))) none)) none) (ly4.Ke ⟨n,m,j,r⟩ K):=k_
def uy4(r:Row)(k:Int):BH Cy4 6 43 [.slice Es r,.v (i64 k)]=br ((r.n:Int) !=k) (some [.v (.bool false)]) (br (vN (⟨r.n,k,0,r⟩:A_ly4)) (br (Ag (fun j=>JZ (r.R j 0)||(↑(r.R j 0).n:Int) !=k) r.n 0) (some [.v (.bool false)]) (some [.v (.bool true)])) none):=k_
def Aic:Ah Cy4 ly9.C:=ly9.ok k_
 (fun its x h hc=>by
  replace h:iM its=some x:=h;unfold iM at h;split at h
  ·cases h;have h:=c_ly9_iff.1 hc;dsimp only at h;obtain⟨rfl,_⟩:=h;rfl
  ·cases h)
 (fun x hc=>by have:=c_ly9_iff.1 hc;show x.n<2^64;omega)
 (fun q ⟨n,m,i,j0,r⟩ j hc hi R K=>by
  obtain⟨h1,h2,h3,h4,h5,h6,h7⟩:=c_ly9_iff.1 hc;dsimp only at*
  replace hi:j<n:=hi;refine(Aej R K q n m i ((j:Int)) r).trans ?_;have k1:=h7 j hi;rw[A9,AE i.toNat,AE j,h3,h6,gd j n hi,show(decide (0<=i)&&decide (i<(n:Int)))=true by rw[A4 h4,A4 h5];rfl,DX j n hi,Eg o_,k1];rfl)
 (fun q ⟨n,m,i,j0,r⟩ hc R K=>by
  obtain⟨h1,h2,h3,h4,h5,h6,h7⟩:=c_ly9_iff.1 hc;dsimp only at*
  refine(Aej R K q n m i ((n:Int)) r).trans ?_;rw[h3,AB (show¬(n:Int)<(n:Int) by omega)];rfl)
def Ahu:Ah Cy4 ly4.C:=ly4.ok k_
 (fun its x h hc=>by
  replace h:rD its=some x:=h;unfold rD at h;split at h
  ·cases h;have h:=c_ly4_iff.1 hc;dsimp only at h;obtain⟨rfl,_⟩:=h;rfl
  ·cases h)
 (fun x hc=>by have:=c_ly4_iff.1 hc;show x.n<2^64;omega)
 (fun q ⟨n,m,j0,r⟩ j hc hi R K=>by
  obtain⟨h1,h2,h3,h4⟩:=c_ly4_iff.1 hc;dsimp only at*
  replace hi:j<n:=hi;refine(Adk R K q n m ((j:Int)) r).trans ?_;have k1:=h4 j hi;rw[A9,AE j,h3,gd j n hi,DX j n hi,Eg o_];by_cases hl:(r.R j 0).n=n
  ·have hc:Um ⟨n,(n:Int),(j:Int),0,r⟩=true:=c_ly9_iff.2 ⟨rfl,h2,rfl,Int.natCast_nonneg j,by show(j:Int)<(n:Int);omega,by show(r.R ((j:Int)).toNat 0).n=n;rw[A9];exact hl,by show Rg2 (r.R ((j:Int)).toNat 0) n;rw[A9,<-hl];exact k1.2⟩;have hb:(JZ (r.R j 0)||((r.R j 0).n:Int) !=(n:Int))=Ag (fun k=>Rt.chkE ((r.R j 0).I k 0) ((r.R j 0).I k 1) !=0) n 0:=by unfold JZ;rw[hl];simp
   show br (((r.R j 0).n:Int) !=(n:Int)) _ (br (Um ⟨n,(n:Int),(j:Int),0,r⟩) (br (Ag (fun k=>Rt.chkE ((r.R ((j:Int)).toNat 0).I k 0) ((r.R ((j:Int)).toNat 0).I k 1) !=0) n 0) _ _) none)=br (JZ (r.R j 0)||((r.R j 0).n:Int) !=(n:Int)) _ _;rw[hc,A9,hb,show(((r.R j 0).n:Int) !=(n:Int))=false by simp;omega];rfl
  ·have e:(((r.R j 0).n:Int) !=(n:Int))=true:=z_;have hb:(JZ (r.R j 0)||((r.R j 0).n:Int) !=(n:Int))=true:=by rw[e];simp
   show br (((r.R j 0).n:Int) !=(n:Int)) _ _=br (JZ (r.R j 0)||((r.R j 0).n:Int) !=(n:Int)) _ _;rw[hb,e];rfl)
 (fun q ⟨n,m,j0,r⟩ hc R K=>by
  obtain⟨h1,h2,h3,h4⟩:=c_ly4_iff.1 hc;dsimp only at*
  refine(Adk R K q n m ((n:Int)) r).trans ?_;rw[h3,AB (show¬(n:Int)<(n:Int) by omega)];rfl)
def Amh:Be Cy4:=Aj enter mixed (Aw Rt.den_chkr AX) (Aw Aic<|Aw Ahu AX)
def Aa8:Den Tryz.prog 43 (FSq aX ZH):=Af Amh fun ds rs h=>by
 unfold FSq at h;split at h
 ·rename_i r k;simp only[A5,A6]at h;obtain⟨h0,rfl⟩:=h;have h0:=AD h0;refine(uy4 r k).trans ?_;unfold ZH;by_cases hk:(r.n:Int)=k
  ·rw[show((r.n:Int) !=k)=false by simpa using hk,Ac,c_ly4_iff.2 ⟨rfl,h0.1,hk.symm,h0.2⟩,Aa,show((r.n:Int)==k)=true by simpa using hk];show br (Ag (fun j=>JZ (r.R j 0)||((r.R j 0).n:Int) !=k) r.n 0) _ _=_;cases Ag (fun j=>JZ (r.R j 0)||((r.R j 0).n:Int) !=k) r.n 0<;>rfl
  ·rw[show((r.n:Int) !=k)=true by simpa using hk,Aa,show((r.n:Int)==k)=false by simpa using hk,Bool.and_false]
 ·cases h
def JO(r:Row)(i:Int)(j:Nat)(a:Int):Int:=bif r.I j 0==i then a+1 else a
def Yh:Dl:={τ:=[.v (.sl 0),.v (.int .i64)]++pu 3++[.v (.int .i64),.v (.int .i64),.v (.int .i64)]++pu 24,saved:=[[]],mem:=[.row Ar false]}
structure A_lt8 where
 n:Nat
 m:Int
 i:Int
 tm:Int
 j:Int
 r:Row
def uA(its:List It):Option A_lt8:=match its with|[.n n,.i m,.i i,.i tm,.i j,.r r]=>some ⟨n,m,i,tm,j,r⟩|_=>none
def Yr(x:A_lt8):Bool:=x.j=0∧x.n<=1000000∧x.m=(x.n:Int)∧x.tm=0
def c_lt8_iff{x:A_lt8}:=@Bl _ Yr _ _ rfl x
def lt8:FoldL A_lt8 (Int):=⟨98,8,[0,1,5,6,7],[0,1,4,5,6],Yh,uA,fun x j a=>[.n x.n,.i x.m,.i x.i,.i a,.i (j:Int),.r x.r],fun x=>x.n,Yr,fun x=>x.tm,fun x j a=>JO x.r x.i j a,fun x a K=>K (.exit 2) ⟨[S_ 0 0 x.n,i64 x.m]++us 3++[i64 x.i,i64 ((a))]++us 25,[[]],[Au Ar x.r]⟩⟩
def WH:Dl:={τ:=[.v (.sl 0),.v (.int .i64)]++pu 3++[.v (.int .i64)]++pu 26,saved:=[[]],mem:=[.row Ar false]}
structure A_lt4d where
 n:Nat
 m:Int
 j:Int
 r:Row
def Xm(its:List It):Option A_lt4d:=match its with|[.n n,.i m,.i j,.r r]=>some ⟨n,m,j,r⟩|_=>none
def Vy(x:A_lt4d):Bool:=x.j=0∧x.n<=1000000∧x.m=(x.n:Int)
def c_lt4d_iff{x:A_lt4d}:=@Bl _ Vy _ _ rfl x
def lt4d:ScanL A_lt4d:=⟨98,4,[0,1,5],[4],WH,Xm,fun x j=>[.n x.n,.i x.m,.i (j:Int),.r x.r],fun x=>x.n,Vy,fun x j=>BK (fun i c=>JO x.r (j:Int) i c) x.n 0 0 !=1,fun x j K=>K .ret ⟨us 4++[.bool false]++us 27,[[]],[]⟩,fun x K=>K (.exit 0) ⟨us 32,[[]],[]⟩⟩
noncomputable def Ct4:Cx:=AP Tryz.prog fns [] [lt8.C,lt4d.C]
def Aeh(R:St->OD)(K:X->St->OD)(q n:Nat)(m i tm j:Int)(r:Row):Ak Ct4 98 8 q (bst Yh [.n n,.i m,.i i,.i tm,.i j,.r r]) (BF [0,1,5,6,7] (some [0,1,4,5,6]) R K)=br (j<m) (br (0<=j&&j<(n:Int)) (br (r.I (0+j.toNat) 0==i) (R (bst Yh [.n n,.i m,.i i,.i (IntKind.i64.wrap (tm+1)),.i (IntKind.i64.wrap (j+1)),.r r])) (R (bst Yh [.n n,.i m,.i i,.i tm,.i (IntKind.i64.wrap (j+1)),.r r]))) none) (K (.exit 2) ⟨[S_ 0 0 n,i64 m]++us 3++[i64 i,i64 tm]++us 25,[[]],[Au Ar r]⟩):=k_
def vZ(R:St->OD)(K:X->St->OD)(q n:Nat)(m j:Int)(r:Row):Ak Ct4 98 4 q (bst WH [.n n,.i m,.i j,.r r]) (BF [0,1,5] (some [4]) R K)=br (j<m) (br (Yr (⟨n,m,j,0,0,r⟩:A_lt8)) (br (BK (fun j_1 a=>JO r j j_1 a) n 0 0 !=1) (lt4d.Kb ⟨n,m,j,r⟩ 0 K) (R (bst WH [.n n,.i m,.i (IntKind.i64.wrap (j+1)),.r r]))) none) (lt4d.Ke ⟨n,m,j,r⟩ K):=k_
def ut4(r:Row)(k:Int):BH Ct4 6 98 [.slice Ar r,.v (i64 k)]=br ((r.n:Int) !=k) (some [.v (.bool false)]) (br (Vy (⟨r.n,k,0,r⟩:A_lt4d)) (br (Ag (fun j=>BK (fun i c=>JO r (j:Int) i c) r.n 0 0 !=1) r.n 0) (some [.v (.bool false)]) (some [.v (.bool true)])) none):=k_
def Aie:Ah Ct4 lt8.C:=lt8.ok (fun x j a=>0<=a∧a<=(j:Int)) k_
 (fun its x h hc=>by
  replace h:uA its=some x:=h;unfold uA at h;split at h
  ·cases h;have h:=c_lt8_iff.1 hc;dsimp only at h;obtain⟨rfl,_⟩:=h;rfl
  ·cases h)
 (fun x hc=>by have:=c_lt8_iff.1 hc;show x.n<2^64;omega)
 (fun x hc=>by
  have:=(c_lt8_iff.1 hc).2.2.2;show 0<=x.tm∧x.tm<=((0:Nat):Int);omega)
 (fun x j a hc hi hI=>by
  replace hI:0<=a∧a<=(j:Int):=hI;show 0<=JO x.r x.i j a∧JO x.r x.i j a<=((j+1:Nat):Int);unfold JO;cases x.r.I j 0==x.i<;>simp only[cond_true,cond_false]<;>omega)
 (fun q ⟨n,m,i,tm0,j0,r⟩ j a hc hi hI R K=>by
  obtain⟨h1,h2,h3,h4⟩:=c_lt8_iff.1 hc;dsimp only at*
  replace hi:j<n:=hi;refine(Aeh R K q n m i ((a)) ((j:Int)) r).trans ?_;replace hI:0<=a∧a<=(j:Int):=hI;rw[A9,AE j,h3,gd j n hi,DX j n hi,Eg o_];rw[show IntKind.i64.wrap (a+1)=a+1 from wrap64 o_ o_];show br true (br true (br (r.I j 0==i) (R (bst lt8.p (lt8.S ⟨n,(n:Int),i,tm0,j0,r⟩ (j+1) (a+1)))) (R (bst lt8.p (lt8.S ⟨n,(n:Int),i,tm0,j0,r⟩ (j+1) a)))) none) _=R (bst lt8.p (lt8.S ⟨n,(n:Int),i,tm0,j0,r⟩ (j+1) (JO r i j a)));unfold JO;cases hb:r.I j 0==i<;>rfl)
 (fun q ⟨n,m,i,tm0,j0,r⟩ a hc hI R K=>by
  obtain⟨h1,h2,h3,h4⟩:=c_lt8_iff.1 hc;dsimp only at*
  refine(Aeh R K q n m i ((a)) ((n:Int)) r).trans ?_;rw[h3,AB (show¬(n:Int)<(n:Int) by omega)];rfl)
def Aao:Ah Ct4 lt4d.C:=lt4d.ok k_
 (fun its x h hc=>by
  replace h:Xm its=some x:=h;unfold Xm at h;split at h
  ·cases h;have h:=c_lt4d_iff.1 hc;dsimp only at h;obtain⟨rfl,_⟩:=h;rfl
  ·cases h)
 (fun x hc=>by have:=c_lt4d_iff.1 hc;show x.n<2^64;omega)
 (fun q ⟨n,m,j0,r⟩ j hc hi R K=>by
  obtain⟨h1,h2,h3⟩:=c_lt4d_iff.1 hc;dsimp only at*
  replace hi:j<n:=hi;refine(vZ R K q n m ((j:Int)) r).trans ?_;rw[h3,DX j n hi,Eg o_,show Yr ⟨n,(n:Int),(j:Int),0,0,r⟩=true from c_lt8_iff.2 ⟨rfl,h2,rfl,rfl⟩];rfl)
 (fun q ⟨n,m,j0,r⟩ hc R K=>by
  obtain⟨h1,h2,h3⟩:=c_lt4d_iff.1 hc;dsimp only at*
  refine(vZ R K q n m ((n:Int)) r).trans ?_;rw[h3,AB (show¬(n:Int)<(n:Int) by omega)];rfl)
def Aig:Be Ct4:=Aj enter mixed AX (Aw Aie<|Aw Aao AX)
def Hr{β:Type}(nx:Nat->β->β):∀(m j:Nat)(a:β),BK nx (m+1) j a=nx (j+m) (BK nx m j a)
 |0,_,_=>rfl
 |m+1,j,a=>by
  show BK nx (m+1) (j+1) (nx j a)=_;rw[Hr nx m (j+1) (nx j a),show j+1+m=j+(m+1) by omega];rfl
def RN(r:Row)(i:Int):∀n,BK (fun j c=>JO r i j c) n 0 0=(IJ (fun j=>r.I j 0) i n:Int)
 |0=>rfl
 |n+1=>by
  rw[Hr,RN r i n,Ro];show JO r i (0+n) _=_;unfold JO;rw[AE];by_cases h:r.I n 0=i
  ·rw[show(r.I n 0==i)=true by simpa using h,AM h,cond_true];omega
  ·rw[show(r.I n 0==i)=false by simpa using h,AL h,cond_false];omega
def ZB(r:Row):Du r (r.n:Int)= !Ag (fun j=>BK (fun i c=>JO r (j:Int) i c) r.n 0 0 !=1) r.n 0:=by
 unfold Du;rw[show((r.n:Int)==(r.n:Int))=true from beq_self_eq_true _,Bool.and_true]
 congr 1
 have h:=ZY (fun j=>r.I j 0) r.n;have e:∀{p q:Bool},(p=false↔q=false)->p=q:=fun{p q} h=>by
  cases p<;>cases q<;>simp_all
 refine e ?_;rw[anyF_false,anyF_false];constructor
 ·intro g j _ hj;have:=h.1 (fun j hj=>by simpa using g j (Nat.zero_le _) o_) j o_;rw[RN,this];rfl
 ·intro g j _ hj;have:=h.2 (fun j hj=>by
   have:=g j (Nat.zero_le _) o_;rw[RN]at this;have:((IJ (fun j=>r.I j 0) (j:Int) r.n:Nat):Int)=1:=by simpa using this
   omega) j o_
  simpa using this
def qP:Den Tryz.prog 98 (FAs (fun a _=>decide (a.n<=1000000)) Du):=Af Aig fun ds rs h=>by
 unfold FAs at h;split at h
 ·rename_i r k;simp only[A5,A6]at h;obtain⟨h0,rfl⟩:=h;have h0:=AD h0;refine(ut4 r k).trans ?_;by_cases hk:(r.n:Int)=k
  ·subst hk;rw[show((r.n:Int) !=(r.n:Int))=false by simp,Ac,c_lt4d_iff.2 ⟨rfl,h0,rfl⟩,Aa,ZB];show br (Ag (fun j=>BK (fun i c=>JO r (j:Int) i c) r.n 0 0 !=1) r.n 0) _ _=_;cases Ag (fun j=>BK (fun i c=>JO r (j:Int) i c) r.n 0 0 !=1) r.n 0<;>rfl
  ·rw[show((r.n:Int) !=k)=true by simpa using hk,Aa];unfold Du;rw[show((r.n:Int)==k)=false by simpa using hk,Bool.and_false]
 ·cases h
def xH:Dl:={τ:=pu 2++[.v (.c (.pointer (some ⟨0,0,some 0⟩))),.v (.c (.pointer (some ⟨1,0,some 0⟩)))]++pu 1++[.v (.int .i64),.v (.int .i64)]++pu 72,saved:=[[]],mem:=[.box [.v (.sl 2),.v (.int .i64)],.box [.v (.sl 3),.v (.sl 4),.v (.int .i64)],.row Cc false,.row Ar false,.row Ar false]}
structure A_lv7 where
 sm:Int
 j:Int
 rn:Nat
 k:Int
 pn:Nat
 n:Nat
 m:Int
 r:Row
 p:Row
 qr:Row
def dP(its:List It):Option A_lv7:=match its with|[.i sm,.i j,.n rn,.i k,.n pn,.n n,.i m,.r r,.r p,.r qr]=>some ⟨sm,j,rn,k,pn,n,m,r,p,qr⟩|_=>none
def iG(x:A_lv7):Bool:=x.j=0∧x.n<=1000000∧1<=x.m∧x.m<=60∧x.sm=0
def c_lv7_iff{x:A_lv7}:=@Bl _ iG _ _ rfl x
def lv7:RunL A_lv7 (Int):=⟨47,7,[2,3,5,6],[2,3,4,5],xH,dP,fun x j a=>[.i a,.i (j:Int),.n x.rn,.i x.k,.n x.pn,.n x.n,.i x.m,.r x.r,.r x.p,.r x.qr],fun x=>x.n,iG,fun x=>x.sm,fun x j a=>Ia x.m (x.qr.I j 0),fun x j a=>a+x.qr.I j 0,fun x j a K=>K .ret ⟨us 2++[.pointer (some ⟨0,0,some 0⟩),.pointer (some ⟨1,0,some 0⟩),i64 8,i64 ((a))]++us 73,[[]],[some (.box [S_ 2 0 x.rn,i64 x.k]),some (.box [S_ 3 0 x.pn,S_ 4 0 x.n,i64 x.m]),Au Cc x.r,Au Ar x.p,Au Ar x.qr]⟩,fun x a K=>K (.exit 0) ⟨us 2++[.pointer (some ⟨0,0,some 0⟩),.pointer (some ⟨1,0,some 0⟩)]++us 1++[i64 ((a))]++us 73,[[]],[some (.box [S_ 2 0 x.rn,i64 x.k]),some (.box [S_ 3 0 x.pn,S_ 4 0 x.n,i64 x.m]),Au Cc x.r,Au Ar x.p,Au Ar x.qr]⟩⟩
noncomputable def Cv7:Cx:=AP Tryz.prog fns [(46,yS Ho Fv),(98,FAs (fun a _=>decide (a.n<=1000000)) Du)] [lv7.C]
def Ad2(R:St->OD)(K:X->St->OD)(q:Nat)(sm j:Int)(rn:Nat)(k:Int)(pn n:Nat)(m:Int)(r p qr:Row):Ak Cv7 47 7 q (bst xH [.i sm,.i j,.n rn,.i k,.n pn,.n n,.i m,.r r,.r p,.r qr]) (BF [2,3,5,6] (some [2,3,4,5]) R K)=br (j<(n:Int)) (br (0<=j&&j<(n:Int)) (br (qr.I (0+j.toNat) 0<IntKind.i64.wrap (-10000000*m)) (K .ret ⟨us 2++[.pointer (some ⟨0,0,some 0⟩),.pointer (some ⟨1,0,some 0⟩),i64 8,i64 sm]++us 73,[[]],[some (.box [S_ 2 0 rn,i64 k]),some (.box [S_ 3 0 pn,S_ 4 0 n,i64 m]),Au Cc r,Au Ar p,Au Ar qr]⟩) (br (0<=j&&j<(n:Int)) (br (qr.I (0+j.toNat) 0>IntKind.i64.wrap (10000000*m)) (K .ret ⟨us 2++[.pointer (some ⟨0,0,some 0⟩),.pointer (some ⟨1,0,some 0⟩),i64 8,i64 sm]++us 73,[[]],[some (.box [S_ 2 0 rn,i64 k]),some (.box [S_ 3 0 pn,S_ 4 0 n,i64 m]),Au Cc r,Au Ar p,Au Ar qr]⟩) (br (0<=j&&j<(n:Int)) (R (bst xH [.i (IntKind.i64.wrap (sm+qr.I (0+j.toNat) 0)),.i (IntKind.i64.wrap (j+1)),.n rn,.i k,.n pn,.n n,.i m,.r r,.r p,.r qr])) none)) none)) none) (K (.exit 0) ⟨us 2++[.pointer (some ⟨0,0,some 0⟩),.pointer (some ⟨1,0,some 0⟩)]++us 1++[i64 sm]++us 73,[[]],[some (.box [S_ 2 0 rn,i64 k]),some (.box [S_ 3 0 pn,S_ 4 0 n,i64 m]),Au Cc r,Au Ar p,Au Ar qr]⟩):=k_
def uv7(r p qr:Row)(n m:Int):BH Cv7 6 47 [.agg [.slice Oc r,.v (i64 n)],.agg [.slice Hf p,.slice Hf qr,.v (i64 m)]]=br (Ho (w_ r 0 r.n) n) (br (Fv (w_ r 0 r.n) n !=0) (br (Ho (w_ r 0 r.n) n) (some [.v (i64 (Fv (w_ r 0 r.n) n))]) none) (br ((w_ p 0 p.n).n<=1000000) (br (!Du (w_ p 0 p.n) (r.n:Int)) (some [.v (i64 8)]) (br ((qr.n:Int) !=(r.n:Int)) (some [.v (i64 8)]) (br (m<1) (some [.v (i64 8)]) (br (m>60) (some [.v (i64 8)]) (br (iG (⟨0,0,r.n,n,p.n,qr.n,m,r,p,qr⟩:A_lv7)) (br ((Bf (lv7.stop (⟨0,0,r.n,n,p.n,qr.n,m,r,p,qr⟩:A_lv7)) (lv7.nx (⟨0,0,r.n,n,p.n,qr.n,m,r,p,qr⟩:A_lv7)) (lv7.len (⟨0,0,r.n,n,p.n,qr.n,m,r,p,qr⟩:A_lv7)) 0 (lv7.ini (⟨0,0,r.n,n,p.n,qr.n,m,r,p,qr⟩:A_lv7))).1) (some [.v (i64 8)]) (br ((Bf (lv7.stop (⟨0,0,r.n,n,p.n,qr.n,m,r,p,qr⟩:A_lv7)) (lv7.nx (⟨0,0,r.n,n,p.n,qr.n,m,r,p,qr⟩:A_lv7)) (lv7.len (⟨0,0,r.n,n,p.n,qr.n,m,r,p,qr⟩:A_lv7)) 0 (lv7.ini (⟨0,0,r.n,n,p.n,qr.n,m,r,p,qr⟩:A_lv7))).snd.2 !=IntKind.i64.wrap (m*n)) (some [.v (i64 8)]) (some [.v (i64 0)]))) none))))) none)) (none):=k_
def Ai9:Ah Cv7 lv7.C:=lv7.ok (fun x j a=> -600000000*(j:Int)<=a∧a<=600000000*(j:Int)) k_
 (fun its x h hc=>by
  replace h:dP its=some x:=h;unfold dP at h;split at h
  ·cases h;have h:=c_lv7_iff.1 hc;dsimp only at h;obtain⟨rfl,_⟩:=h;rfl
  ·cases h)
 (fun x hc=>by have:=c_lv7_iff.1 hc;show x.n<2^64;omega)
 (fun x hc=>by
  have:=(c_lv7_iff.1 hc).2.2.2.2;show-600000000*((0:Nat):Int)<=x.sm∧x.sm<=600000000*((0:Nat):Int);omega)
 (fun x j a hc hi hI hs=>by
  have g:=c_lv7_iff.1 hc;replace hI: -600000000*(j:Int)<=a∧a<=600000000*(j:Int):=hI;replace hs:Ia x.m (x.qr.I j 0)=false:=hs;unfold Ia at hs;simp only[AI,decide_eq_false_iff_not]at hs;show-600000000*((j+1:Nat):Int)<=a+x.qr.I j 0∧a+x.qr.I j 0<=600000000*((j+1:Nat):Int);omega)
 (fun q ⟨sm0,j0,rn,k,pn,n,m,r,p,qr⟩ j a hc hi hI R K=>by
  obtain⟨h1,h2,h3,h4,h5⟩:=c_lv7_iff.1 hc;dsimp only at*
  replace hi:j<n:=hi;refine(Ad2 R K q ((a)) ((j:Int)) rn k pn n m r p qr).trans ?_;replace hI: -600000000*(j:Int)<=a∧a<=600000000*(j:Int):=hI;rw[A9,AE j,gd j n hi,DX j n hi,Eg o_,show IntKind.i64.wrap (-10000000*m)= -10000000*m from wrap64 o_ o_,show IntKind.i64.wrap (10000000*m)=10000000*m from wrap64 o_ o_,Aa,Aa];refine(Fz _ _ _ _).symm.trans ?_;show br (Ia m (qr.I j 0)) _ _=br (Ia m (qr.I j 0)) _ _;cases hb:Ia m (qr.I j 0)
  ·unfold Ia at hb;simp only[AI,decide_eq_false_iff_not]at hb;rw[Ac,Ac,show IntKind.i64.wrap (a+qr.I j 0)=a+qr.I j 0 from wrap64 o_ o_];rfl
  ·rfl)
 (fun q ⟨sm0,j0,rn,k,pn,n,m,r,p,qr⟩ a hc hI R K=>by
  obtain⟨h1,h2,h3,h4,h5⟩:=c_lv7_iff.1 hc;dsimp only at*
  refine(Ad2 R K q ((a)) ((n:Int)) rn k pn n m r p qr).trans ?_;rw[EU n];rfl)
def Aj3:Be Cv7:=Aj enter mixed (Aw UG<|Aw qP AX) (Aw Ai9 AX)
def Aaa:Den Tryz.prog 47 (FRv (Lu (JV (fun a _=>decide (a.n<=1000000)))) (LM (Kz Du))):=Af Aj3 fun ds rs h=>by
 unfold FRv at h;split at h
 ·rename_i r n p qr m;simp only[A5,A6]at h;obtain⟨h0,rfl⟩:=h;unfold Lu JV at h0;simp only[A2]at h0;obtain⟨⟨g1,g2,g4⟩,g3⟩:=h0;have g3:=AD g3;refine(uv7 r p qr n m).trans ?_;refine Fp (show Ho (w_ r 0 r.n) n=true from g1) ?_;rw[show Ho (w_ r 0 r.n) n=true from g1,Aa];show br (Fv r n !=0) (some [D.v (i64 (Fv r n))]) _=some [D.v (i64 (LM (Kz Du) r n p qr m))];cases hq:Fv r n !=0
  ·have hz:Fg r=0:=by
    have hq':Fv r n=0:=by simpa using hq
    unfold Fv at hq';cases ha:Fg r !=0
    ·simpa using ha
    ·rw[ha,cond_true]at hq';exact hq'
   have hv:Kz Du (Ae r) (Ae p)=bif !Du (Ae p) (r.n:Int)then 8 else 0:=by
    show(bif Fg r !=0 then Fg r else bif !Du (Ae p) (r.n:Int)then 8 else 0)=_;rw[hz];rfl
   unfold LM;rw[hq,Ac,cond_false,hv];refine Fp (show decide ((w_ p 0 p.n).n<=1000000)=true from g4) ?_;show br (!Du (Ae p) (r.n:Int)) _ _=_;cases Du (Ae p) (r.n:Int)
   ·rfl
   ·show br ((qr.n:Int) !=(r.n:Int)) _ (br (decide (m<1)) _ (br (decide (m>60)) _ _))=some [D.v (i64 (bif m<1 then 8 else bif m>60 then 8 else bif (qr.n:Int) !=(r.n:Int)then 8 else bif (Acg m qr).1 then 8 else bif (Acg m qr).2.2 !=IntKind.i64.wrap (n*m)then 8 else 0))];cases h5:(qr.n:Int) !=(r.n:Int)
    ·rw[Ac,cond_false];refine Cb fun h3=>Cb fun h4=>?_;have k3:¬m<1:=AO h3;have k4:¬m>60:=AO h4;refine Fp (c_lv7_iff.2 ⟨rfl,g3,by show 1<=m;omega,by show m<=60;omega,rfl⟩) ?_;rw[Int.mul_comm n m];exact Cb fun h6=>Cb fun h7=>rfl
    ·cases decide (m<1)<;>cases decide (m>60)<;>rfl
  ·unfold LM;rw[hq];rfl
 ·cases h
def Ao3(o:Dc->Bool):FD
 |[d]=>match Fe d with
  |some x=>some (true,[.v (.bool (o x))])
  |none=>none
 |_=>none
def Aqj(e:Row->Int):FD
 |[.slice [.int .i64] b]=>some (true,[.v (i64 (e b))])
 |_=>none
def Anp(e:Row->Int):FD
 |[.agg [.slice [.slice [.int .i64]] r]]=>some (r.n<=1000000,[.v (i64 (e r))])
 |_=>none
def Anl(e:Row->Row->Int):FD
 |[.agg [.slice [.slice [.int .i64]] r],.slice [.int .i64] a]=>some (r.n<=1000000∧a.n<=1000000,[.v (i64 (e r a))])
 |_=>none
noncomputable def CkR(ob:Dc->Bool)(sc sb:Row->Int->Bool)(pcc:Row->Row->Bool)(pcE:Row->Row->Int)(rcc:Row->Int->Bool)(rcE:Row->Int->Int)(rvc:Row->Int->Row->Row->Int->Bool)(rvE:Row->Int->Row->Row->Int->Int)(stE:Row->Int)(lcE:Int->Row->Int)(hE:Row->Int)(vE:Row->Row->Int):Cx:=AP Tryz.prog fns [(41,Ao3 ob),(42,FPc pcc pcE),(43,FSq sc sb),(44,Anp hE),(45,Anl vE),(46,yS rcc rcE),(47,FRv rvc rvE),(48,Aqj stE),(49,FLc lcE)] []
def Arp(ob:Dc->Bool)(sc sb:Row->Int->Bool)(pcc:Row->Row->Bool)(pcE:Row->Row->Int)(rcc:Row->Int->Bool)(rcE:Row->Int->Int)(rvc:Row->Int->Row->Row->Int->Bool)(rvE:Row->Int->Row->Row->Int->Int)(stE:Row->Int)(lcE:Int->Row->Int)(hE:Row->Int)(vE:Row->Row->Int)(k:Int)(ca pi:Row)(pc:Int)(wo gv aa fv:Row)(rr:Int)(lr lp:Row)(ld:Int)(ba pa:Row)(cl:Int):BH (CkR ob sc sb pcc pcE rcc rcE rvc rvE stE lcE hE vE) 6 11 [TR k ca pi pc wo gv aa fv rr lr lp ld ba pa cl]=br (ob (⟨k,w_ ca 0 ca.n,w_ pi 0 pi.n,pc,w_ wo 0 wo.n,w_ gv 0 gv.n,w_ aa 0 aa.n,w_ fv 0 fv.n,rr,w_ lr 0 lr.n,w_ lp 0 lp.n,ld,w_ ba 0 ba.n,w_ pa 0 pa.n,cl⟩:Dc)) (some [.v (i64 8)]) (br (k==1) (br (pcc (w_ ca 0 ca.n) (w_ pi 0 pi.n)) (br (sc (w_ wo 0 wo.n) (ca.n:Int)) (br (sb (w_ wo 0 wo.n) (ca.n:Int)) (br (pcE (w_ ca 0 ca.n) (w_ pi 0 pi.n)==0) (br (!decide (pc<=31)) (some [.v (i64 8)]) (some [.v (i64 (pcE (w_ ca 0 ca.n) (w_ pi 0 pi.n)))])) (some [.v (i64 (pcE (w_ ca 0 ca.n) (w_ pi 0 pi.n)))])) (br (pcE (w_ ca 0 ca.n) (w_ pi 0 pi.n)==0) (some [.v (i64 8)]) (some [.v (i64 (pcE (w_ ca 0 ca.n) (w_ pi 0 pi.n)))]))) none) none) (br (k==2) (br ((w_ gv 0 gv.n).n<=1000000) (br (hE (w_ gv 0 gv.n)==0) (br (decide ((w_ gv 0 gv.n).n<=1000000∧(w_ aa 0 aa.n).n<=1000000)) (br (vE (w_ gv 0 gv.n) (w_ aa 0 aa.n)==0) (br (!decide (cl<=31)) (some [.v (i64 8)]) (some [.v (i64 (vE (w_ gv 0 gv.n) (w_ aa 0 aa.n)))])) (some [.v (i64 (vE (w_ gv 0 gv.n) (w_ aa 0 aa.n)))])) none) (br (hE (w_ gv 0 gv.n)==0) (br (!decide (cl<=31)) (some [.v (i64 8)]) (some [.v (i64 (hE (w_ gv 0 gv.n)))])) (some [.v (i64 (hE (w_ gv 0 gv.n)))]))) none) (br (k==3) (br (rcc (w_ fv 0 fv.n) rr) (br (rcE (w_ fv 0 fv.n) rr==0) (br (rvc (w_ fv 0 fv.n) rr (w_ lr 0 lr.n) (w_ lp 0 lp.n) ld) (br (rvE (w_ fv 0 fv.n) rr (w_ lr 0 lr.n) (w_ lp 0 lp.n) ld==0) (br (!decide (cl<=3)) (some [.v (i64 8)]) (some [.v (i64 (rvE (w_ fv 0 fv.n) rr (w_ lr 0 lr.n) (w_ lp 0 lp.n) ld))])) (some [.v (i64 (rvE (w_ fv 0 fv.n) rr (w_ lr 0 lr.n) (w_ lp 0 lp.n) ld))])) none) (br (rcE (w_ fv 0 fv.n) rr==0) (br (!decide (cl<=3)) (some [.v (i64 8)]) (some [.v (i64 (rcE (w_ fv 0 fv.n) rr))])) (some [.v (i64 (rcE (w_ fv 0 fv.n) rr))]))) none) (br (k==4) (br (stE (w_ ba 0 ba.n)==0) (br (lcE (ba.n:Int) (w_ pa 0 pa.n)==0) (br (!decide (cl<=3)) (some [.v (i64 8)]) (some [.v (i64 (lcE (ba.n:Int) (w_ pa 0 pa.n)))])) (some [.v (i64 (lcE (ba.n:Int) (w_ pa 0 pa.n)))])) (br (stE (w_ ba 0 ba.n)==0) (br (!decide (cl<=3)) (some [.v (i64 8)]) (some [.v (i64 (stE (w_ ba 0 ba.n)))])) (some [.v (i64 (stE (w_ ba 0 ba.n)))]))) (some [.v (i64 0)]))))):=k_
def rkC(x:Dc):Bool:=Pg x||(bif x.k==1 then ND (Ae x.ca) (Ae x.pi)&&aX (Ae x.wo) x.ca.n else bif x.k==2 then decide (x.gv.n<=1000000∧x.aa.n<=1000000)else bif x.k==3 then Ho (Ae x.fv) x.rr&&Lu (JV (fun a _=>decide (a.n<=1000000))) (Ae x.fv) x.rr (Ae x.lr) (Ae x.lp) x.ld else true)
def Apz:FD
 |[d]=>match Fe d with
  |some x=>some (rkC x,[.v (i64 (ckE vB x))])
  |none=>none
 |_=>none
noncomputable def CkX:Cx:=CkR Pg aX ZH ND Qh Ho Fv (Lu (JV (fun a _=>decide (a.n<=1000000)))) (LM (Kz Du)) Ld.ckE Ld.Lg.chk chkE Gz
def Alb:Be CkX:=by
 unfold CkX CkR;exact Aj enter mixed (Aw Acz<|Aw yO<|Aw Aa8<|Aw YZ<|Aw yH<|Aw UG<|Aw Aaa<|Aw Ld.den_start<|Aw Ld.den_r37 AX) AX
def Xh(a b:Int)(ok:Bool):br (a==0) (br (b==0) (br (!ok) (some [D.v (i64 8)]) (some [D.v (i64 b)])) (some [D.v (i64 b)])) (br (a==0) (br (!ok) (some [D.v (i64 8)]) (some [D.v (i64 a)])) (some [D.v (i64 a)]))=some [D.v (i64 (TE (two a b) ok))]:=by
 rw[Ou,Ou];unfold two;by_cases h:a=0
 ·rw[show(a==0)=true by simpa using h,show(a !=0)=false by simpa using h];rfl
 ·rw[show(a==0)=false by simpa using h,show(a !=0)=true by simpa using h];rfl
def Ang(e:Int)(sb p:Bool):br sb (br (e==0) (br (!p) (some [D.v (i64 8)]) (some [D.v (i64 e)])) (some [D.v (i64 e)])) (br (e==0) (some [D.v (i64 8)]) (some [D.v (i64 e)]))=some [D.v (i64 (TE e (p&&sb)))]:=by
 unfold TE;cases sb<;>cases p<;>cases(e==0)<;>rfl
def den_ckr:Den Tryz.prog 11 Apz:=Af Alb fun ds rs h=>by
 unfold Apz at h;split at h
 ·split at h
  ·rename_i x hx;simp only[A5,A6]at h;obtain⟨hc,rfl⟩:=h;rw[CZ hx];refine(Arp Pg aX ZH ND Qh Ho Fv (Lu (JV (fun a _=>decide (a.n<=1000000)))) (LM (Kz Du)) Ld.ckE Ld.Lg.chk chkE Gz x.k x.ca x.pi x.pc x.wo x.gv x.aa x.fv x.rr x.lr x.lp x.ld x.ba x.pa x.cl).trans ?_;show br (Pg x) _ _=_;cases ho:Pg x
   ·rw[Ac];have hb:Ff x=false∧TF x.k x=false:=by
     unfold Pg at ho;exact AI.1 ho
    have hk:1<=x.k∧x.k<=4:=by
     have h1:=hb.1;unfold Ff at h1;simp only[AI,decide_eq_false_iff_not]at h1;omega
    unfold rkC at hc;rw[ho,Bool.false_or]at hc;unfold ckE;rw[hb.1,hb.2];show _=some [D.v (i64 (bif x.k==1 then _ else _))];have:x.k=1∨x.k=2∨x.k=3∨x.k=4:=o_;rcases this with e|e|e|e<;>rw[e]at hc⊢
    ·replace hc:(ND (Ae x.ca) (Ae x.pi)&&aX (Ae x.wo) x.ca.n)=true:=hc;rw[A2]at hc;show br (ND (Ae x.ca) (Ae x.pi)) (br (aX (Ae x.wo) x.ca.n) (br (ZH (Ae x.wo) x.ca.n) _ _) none) none=some [D.v (i64 (TE (Qh (Ae x.ca) (Ae x.pi)) (decide (x.pc<=31)&&ZH (Ae x.wo) x.ca.n)))];rw[hc.1,hc.2,Aa,Aa];exact Ang _ _ _
    ·replace hc:decide (x.gv.n<=1000000∧x.aa.n<=1000000)=true:=hc;have h3:=AD hc;show br (decide (x.gv.n<=1000000)) (br (chkE x.gv==0) (br (decide (x.gv.n<=1000000∧x.aa.n<=1000000)) _ none) _) none=some [D.v (i64 (TE (two (chkE x.gv) (Gz x.gv x.aa)) (decide (x.cl<=31))))];rw[A4 h3.1,hc,Aa,Aa];exact Xh _ _ _
    ·replace hc:(Ho (Ae x.fv) x.rr&&Lu (JV (fun a _=>decide (a.n<=1000000))) (Ae x.fv) x.rr (Ae x.lr) (Ae x.lp) x.ld)=true:=hc;rw[A2]at hc;show br (Ho (Ae x.fv) x.rr) (br (Fv (Ae x.fv) x.rr==0) (br (Lu (JV (fun a _=>decide (a.n<=1000000))) (Ae x.fv) x.rr (Ae x.lr) (Ae x.lp) x.ld) _ none) _) none=_;rw[hc.1,hc.2,Aa,Aa];exact Xh _ _ _
    ·exact Xh _ _ _
   ·unfold ckE;unfold Pg at ho;rw[ho];rfl
  ·cases h
 ·cases h
open Go.Lib Go.RowKit
def dR(n:Int):Bool:=-9999999999<=n∧n<=9999999999
def dR_iff{n:Int}:dR n=true↔-9999999999<=n∧n<=9999999999:=by unfold dR;rw[A3]
def Vg{n:Int}(h:dR n=true):Sc.dcA n=true:=by
 have:=dR_iff.1 h;unfold Sc.dcA;simp only[A2,A3];omega
def IY{n:Int}(h:dR n=true):iR n=true:=by
 have:=dR_iff.1 h;exact iR_iff.2 o_
def sSp:Y_:=⟨⟨[32]⟩⟩
def liN(r:Row)(j:Nat)(a:Y_):Y_:=(a++sSp)++Sc.ddP (r.I j 0)
def raN(r:Row)(j:Nat)(a:Y_):Y_:=(a++sSp)++txt (Rt.txL (r.I j 0) (r.I j 1))
def GI(a b:Y_):(a++b).size=a.size+b.size:=ByteArray.size_append
def UC{n:Nat}(h:n<=9223372036854775807):decide ((n:Int)>IntKind.i64.max)=false:=by
 rw[Rt.max_i64];exact AB o_
def Hq{n:Int}(h:dR n=true):(Sc.ddP n).size<=21:=by
 unfold Sc.ddP;rw[Rt.txt_size];exact C9 (IY h)
def KJ:sSp.size=1:=rfl
def xJ{r:Row}{j:Nat}{a:Y_}(h:dR (r.I j 0)=true):(liN r j a).size<=a.size+22:=by
 have:=Hq h;unfold liN;rw[GI,GI,KJ];omega
def Ui{n d:Int}(h:(Rt.iR n&&Rt.iR d)=true):(txt (Rt.txL n d)).size<=43:=by
 rw[Rt.txt_size];exact NT (q:=(n,d)) h
def jA{r:Row}{j:Nat}{a:Y_}(h:(Rt.iR (r.I j 0)&&Rt.iR (r.I j 1))=true):(raN r j a).size<=a.size+44:=by
 have:=Ui h;unfold raN;rw[GI,GI,KJ];omega
def mJ:Dl:={τ:=[.v (.sl 0)]++pu 2++[.v (.str),.v (.int .i64)]++pu 15,saved:=[[]],mem:=[.row Ar false]}
structure A_li3 where
 n:Nat
 s:Y_
 j:Int
 r:Row
def qY(its:List It):Option A_li3:=match its with|[.n n,.s s,.i j,.r r]=>some ⟨n,s,j,r⟩|_=>none
def sG(x:A_li3):Bool:=x.j=0∧x.n<=1000000∧x.s.size=0∧∀i,i<x.n->dR (x.r.I i 0)=true
def c_li3_iff{x:A_li3}:=@Bl _ sG _ _ rfl x
def li3:FoldL A_li3 (Y_):=⟨66,3,[0,3,4],[2,3],mJ,qY,fun x j a=>[.n x.n,.s a,.i (j:Int),.r x.r],fun x=>x.n,sG,fun x=>x.s,fun x j a=>liN x.r j a,fun x a K=>K (.exit 0) ⟨us 3++[.string ((a))]++us 16,[[]],[]⟩⟩
def tY:Dl:={τ:=[.v (.sl 0)]++pu 2++[.v (.str),.v (.int .i64)]++pu 21,saved:=[[]],mem:=[.row JD false]}
structure A_ra3 where
 n:Nat
 s:Y_
 j:Int
 r:Row
def iH(its:List It):Option A_ra3:=match its with|[.n n,.s s,.i j,.r r]=>some ⟨n,s,j,r⟩|_=>none
def nV(x:A_ra3):Bool:=x.j=0∧x.n<=1000000∧x.s.size=0∧∀i,i<x.n->(Rt.iR (x.r.I i 0)&&Rt.iR (x.r.I i 1))=true
def c_ra3_iff{x:A_ra3}:=@Bl _ nV _ _ rfl x
def ra3:FoldL A_ra3 (Y_):=⟨67,3,[0,3,4],[2,3],tY,iH,fun x j a=>[.n x.n,.s a,.i (j:Int),.r x.r],fun x=>x.n,nV,fun x=>x.s,fun x j a=>raN x.r j a,fun x a K=>K (.exit 0) ⟨us 3++[.string ((a))]++us 22,[[]],[]⟩⟩
noncomputable def Cli:Cx:=AP Tryz.prog fns [(26,Sc.Fdec)] [li3.C]
noncomputable def Cra:Cx:=AP Tryz.prog fns [(112,Rt.Ftx)] [ra3.C]
def Adc(R:St->OD)(K:X->St->OD)(q n:Nat)(s:Y_)(j:Int)(r:Row):Ak Cli 66 3 q (bst mJ [.n n,.s s,.i j,.r r]) (BF [0,3,4] (some [2,3]) R K)=br (j<(n:Int)) (br ((↑(s.size+{data:= #[32]:Y_}.size):Int)>IntKind.i64.max) none (br (0<=j&&j<(n:Int)) (br (Sc.dcA (r.I (0+j.toNat) 0)) (br ((↑((s++{data:= #[32]:Y_}).size+(Sc.ddP (r.I (0+j.toNat) 0)).size):Int)>IntKind.i64.max) none (R (bst mJ [.n n,.s (s++{data:={toList:=[32]:Array UInt8}:Y_}++Sc.ddP (r.I (0+j.toNat) 0)),.i (IntKind.i64.wrap (j+1)),.r r]))) none) none)) (K (.exit 0) ⟨us 3++[.string s]++us 16,[[]],[]⟩):=k_
def Af4(R:St->OD)(K:X->St->OD)(q n:Nat)(s:Y_)(j:Int)(r:Row):Ak Cra 67 3 q (bst tY [.n n,.s s,.i j,.r r]) (BF [0,3,4] (some [2,3]) R K)=br (j<(n:Int)) (br (0<=j&&j<(n:Int)) (br (Rt.iR (r.I (0+j.toNat) 0)&&Rt.iR (r.I (0+j.toNat) 1)) (br ((↑(s.size+{data:= #[32]:Y_}.size):Int)>IntKind.i64.max) none (br ((↑((s++{data:= #[32]:Y_}).size+(txt (Rt.txL (r.I (0+j.toNat) 0) (r.I (0+j.toNat) 1))).size):Int)>IntKind.i64.max) none (R (bst tY [.n n,.s (s++{data:={toList:=[32]:Array UInt8}:Y_}++txt (Rt.txL (r.I (0+j.toNat) 0) (r.I (0+j.toNat) 1))),.i (IntKind.i64.wrap (j+1)),.r r])))) none) none) (K (.exit 0) ⟨us 3++[.string s]++us 22,[[]],[]⟩):=k_
def uli(r:Row):BH Cli 6 66 [.slice Ar r]=br (sG (⟨r.n,{data:={toList:=[]:Array UInt8}:Y_},0,r⟩:A_li3)) (some [.v (.string (BK (fun j a=>liN r j a) r.n 0 {data:={toList:=[]:Array UInt8}:Y_}))]) (none):=k_
def ura(r:Row):BH Cra 6 67 [.slice JD r]=br (nV (⟨r.n,{data:={toList:=[]:Array UInt8}:Y_},0,r⟩:A_ra3)) (some [.v (.string (BK (fun j a=>raN r j a) r.n 0 {data:={toList:=[]:Array UInt8}:Y_}))]) (none):=k_
def Ah4:Ah Cli li3.C:=li3.ok (fun x j a=>a.size<=22*j) k_
 (fun its x h hc=>by
  replace h:qY its=some x:=h;unfold qY at h;split at h
  ·cases h;have h:=c_li3_iff.1 hc;dsimp only at h;obtain⟨rfl,_⟩:=h;rfl
  ·cases h)
 (fun x hc=>by have:=c_li3_iff.1 hc;show x.n<2^64;omega)
 (fun x hc=>by
  have:=(c_li3_iff.1 hc).2.2.1;show x.s.size<=22*0;omega)
 (fun x j a hc hi hI=>by
  replace hI:a.size<=22*j:=hI;have k:=xJ (a:=a) ((c_li3_iff.1 hc).2.2.2 j hi);show(liN x.r j a).size<=22*(j+1);omega)
 (fun q ⟨n,s0,j0,r⟩ j a hc hi hI R K=>by
  obtain⟨h1,h2,h3,h4⟩:=c_li3_iff.1 hc;dsimp only at*
  replace hi:j<n:=hi;refine(Adc R K q n ((a)) ((j:Int)) r).trans ?_;replace hI:a.size<=22*j:=hI;have k:=h4 j hi;have k2:=Vg k;have k3:=Hq k;have k4:(a++sSp).size=a.size+1:=by rw[GI,KJ]
  rw[A9,AE j,gd j n hi,DX j n hi,Eg o_];refine Aq rfl (BC (UC (by show a.size+1<=_;omega)) (Aq rfl (Aq k2 (BC (UC (by show(a++sSp).size+(Sc.ddP (r.I j 0)).size<=_;omega)) ?_))));rfl)
 (fun q ⟨n,s0,j0,r⟩ a hc hI R K=>by
  obtain⟨h1,h2,h3,h4⟩:=c_li3_iff.1 hc;dsimp only at*
  refine(Adc R K q n ((a)) ((n:Int)) r).trans ?_;rw[EU n];rfl)
def Aiq:Ah Cra ra3.C:=ra3.ok (fun x j a=>a.size<=44*j) k_
 (fun its x h hc=>by
  replace h:iH its=some x:=h;unfold iH at h;split at h
  ·cases h;have h:=c_ra3_iff.1 hc;dsimp only at h;obtain⟨rfl,_⟩:=h;rfl
  ·cases h)
 (fun x hc=>by have:=c_ra3_iff.1 hc;show x.n<2^64;omega)
 (fun x hc=>by
  have:=(c_ra3_iff.1 hc).2.2.1;show x.s.size<=44*0;omega)
 (fun x j a hc hi hI=>by
  replace hI:a.size<=44*j:=hI;have k:=jA (a:=a) ((c_ra3_iff.1 hc).2.2.2 j hi);show(raN x.r j a).size<=44*(j+1);omega)
 (fun q ⟨n,s0,j0,r⟩ j a hc hi hI R K=>by
  obtain⟨h1,h2,h3,h4⟩:=c_ra3_iff.1 hc;dsimp only at*
  replace hi:j<n:=hi;refine(Af4 R K q n ((a)) ((j:Int)) r).trans ?_;replace hI:a.size<=44*j:=hI;have k:=h4 j hi;have k3:=Ui k;have k4:(a++sSp).size=a.size+1:=by rw[GI,KJ]
  rw[A9,AE j,gd j n hi,DX j n hi,Eg o_];refine Aq rfl (Aq rfl (Aq k (BC (UC (by show a.size+1<=_;omega)) (BC (UC (by show(a++sSp).size+(txt (Rt.txL (r.I j 0) (r.I j 1))).size<=_;omega)) ?_))));rfl)
 (fun q ⟨n,s0,j0,r⟩ a hc hI R K=>by
  obtain⟨h1,h2,h3,h4⟩:=c_ra3_iff.1 hc;dsimp only at*
  refine(Af4 R K q n ((a)) ((n:Int)) r).trans ?_;rw[EU n];rfl)
def Aja:Be Cli:=Aj enter mixed (Aw Sc.den_dec AX) (Aw Ah4 AX)
def Agi:LH Cra Wd:=BA enter mixed (Aw Rt.den_textr AX) (Aw Aiq AX)
def lQ(l m:List UInt8):txt l++sSp++txt m=txt (l++(32::m)):=by
 rw[show sSp=txt [32]from rfl,Rt.txt_app,Rt.txt_app,List.append_assoc];rfl
def YO(r:Row):∀n,BK (fun j a=>liN r j a) n 0 (txt [])=txt (BI (fun j=>r.I j 0) n)
 |0=>rfl
 |n+1=>by
  rw[Hr,YO r n,AE];exact lQ _ _
def XM(r:Row):∀n,BK (fun j a=>raN r j a) n 0 (txt [])=txt (FO (fun j=>(r.I j 0,r.I j 1)) n)
 |0=>rfl
 |n+1=>by
  rw[Hr,XM r n,AE];exact lQ _ _
def Fli:FD
 |[.slice [.int .i64] r]=>some (decide (r.n<=1000000∧∀i,i<r.n->dR (r.I i 0)=true),[.v (.string (txt (BI (fun j=>r.I j 0) r.n)))])
 |_=>none
def Fra:FD
 |[.slice [.int .i64,.int .i64] r]=>some (decide (r.n<=1000000∧∀i,i<r.n->(Rt.iR (r.I i 0)&&Rt.iR (r.I i 1))=true),[.v (.string (txt (FO (fun j=>(r.I j 0,r.I j 1)) r.n)))])
 |_=>none
def den_li:Den Tryz.prog 66 Fli:=Af Aja fun ds rs h=>by
 unfold Fli at h;split at h
 ·rename_i r;simp only[A5,A6]at h;obtain⟨h0,rfl⟩:=h;have h0:=AD h0;refine(uli r).trans ?_;rw[c_li3_iff.2 ⟨rfl,h0.1,rfl,h0.2⟩,Aa,<-YO r r.n];rfl
 ·cases h
def Ali:DenW Tryz.prog Wd 67 Fra:=CO Agi fun ds rs h=>by
 unfold Fra at h;split at h
 ·rename_i r;simp only[A5,A6]at h;obtain⟨h0,rfl⟩:=h;have h0:=AD h0;refine(ura r).trans ?_;rw[c_ra3_iff.2 ⟨rfl,h0.1,rfl,h0.2⟩,Aa,<-XM r r.n];rfl
 ·cases h
end Go.Proofs.YtnljjjghpgdmoaaGreatDoor
namespace Go.Proofs.YtnljjjghpgdmoaaGreatDoor.Sc
open Go.Ev Go.Lib Go.RowKit
open Go.Dec (HY Dz KO)
def drop_c{x:Y_}{j:Nat}(h:j<x.size):(Ad x).drop j=x.data.getD j 0::(Ad x).drop (j+1):=by
 have h2:j<(Ad x).length:=h;rw[List.drop_eq_getElem_cons h2]
 congr 1
 rw[Rt.getD_by,List.getD_eq_getElem?_getD];change _=((Ad x)[j]?).getD 0;rw[AK h2];rfl
def nX(x:Y_)(hx:x.size<=10):∀(m j:Nat)(a:Int),j+m=x.size->0<=a->a<10^j->(Bf (TP x) (VU x) m j a).1=false->
  0<=(Bf (TP x) (VU x) m j a).2.2∧(Bf (TP x) (VU x) m j a).2.2<10^x.size∧parseUint10 a.toNat ((Ad x).drop j)=.ok (Bf (TP x) (VU x) m j a).2.2.toNat
 |0,j,a,hj,h0,h1,_=>by
  have e:j=x.size:=o_;subst e;refine⟨h0,h1,?_⟩;have:(Ad x).drop x.size=[]:=List.drop_eq_nil_of_le (AC (Ad x).length);rw[this];rfl
 |m+1,j,a,hj,h0,h1,hr=>by
  cases hs:TP x j a with
  |true=>
   rw[H8 hs]at hr;cases hr
  |false=>
   rw[Fq hs]at hr⊢;unfold TP at hs;simp only[AI,decide_eq_false_iff_not]at hs;obtain⟨s1,s2⟩:=hs;have e:VU x j a=10*a+((((x.data.getD j 0).toNat:Nat):Int)-48):=rfl;have hp:(10:Int)^(j+1)=10^j*10:=Int.pow_succ ..;have g:=nX x hx m (j+1) (VU x j a) o_ o_ o_ hr;refine⟨g.1,g.2.1,?_⟩;rw[<-g.2.2,drop_c (show j<x.size by omega)];have hb:(10:Int)^(j+1)<=10^10:=by
    have:(10:Nat)^(j+1)<=10^10:=Nat.pow_le_pow_right d_ o_
    exact_mod_cast this
   have hb':(10:Int)^10=10000000000:=d_;have et:(VU x j a).toNat=a.toNat*10+((x.data.getD j 0).toNat-48):=o_;show(if 48<=(x.data.getD j 0).toNat∧(x.data.getD j 0).toNat<=57 then _ else _)=_;rw[AM o_,AL o_,AL o_,et]
def nu_ai{s:Y_}(h:nuB s=true):Y4 (Ad s)=false∧XY (Ad s)=nuN s:=by
 have hN:nuN s=WN (Vt s) (Jy s):=by unfold nuN;rw[h];rfl
 unfold nuB WF at h;simp only[A2,Bool.not_eq_true',A3]at h;obtain⟨⟨⟨⟨h1,h2⟩,h3⟩,h4⟩,h5⟩:=h;have hr:=nX (Jy s) h2 (Jy s).size 0 0 o_ d_ d_ h5;obtain⟨r1,r2,r3⟩:=hr;have hb:(10:Int)^(Jy s).size<=10^10:=by
  have:(10:Nat)^(Jy s).size<=10^10:=Nat.pow_le_pow_right d_ o_
  exact_mod_cast this
 have hb':(10:Int)^10=10000000000:=d_;change 0<=(J7 (Jy s)).2.2 at r1;change (J7 (Jy s)).2.2<_ at r2;replace r3:parseUint10 0 (Ad (Jy s))=.ok (J7 (Jy s)).2.2.toNat:=r3;have hm:parseMag (Ad (Jy s))=.ok (J7 (Jy s)).2.2.toNat:=by
  unfold parseMag;rw[AL (fun hz=>by
   have:(Ad (Jy s)).length=(Jy s).size:=rfl;rw[hz]at this;simp at this;omega)]
  exact r3
 rw[hN];unfold Y4 XY;cases hg:Vt s with
 |true=>
  have hx:Jy s=s.extract 1 s.size:=by unfold Jy;rw[hg];rfl
  have hg':=hg;unfold Vt at hg';simp only[A2,A3,beq_iff_eq]at hg';obtain⟨g1,g2⟩:=hg';have hl:Ad s=s.data.getD 0 0::(Ad s).drop 1:=by
   have:=drop_c (x:=s) (j:=0) o_;simpa using this
  have hd:Ad (Jy s)=(Ad s).drop 1:=by
   rw[hx,by_ext];rw[List.take_of_length_le (show(Ad s).length<=s.size from AC _)]
  unfold Ru at g2;have g3:(s.data.getD 0 0).toNat=45:=o_;have ha:atoiAll (Ad s)=.ok (-((J7 (Jy s)).2.2.toNat:Int)):=by
   rw[hl];unfold atoiAll;simp only[g3];rw[AM d_,<-hd,hm];simp only[];rw[AL y_,AL o_,AM trivial]
  rw[ha];refine⟨rfl,?_⟩;show-(((J7 (Jy s)).2.2.toNat:Nat):Int)=IntKind.i64.wrap (0-(J7 (Jy s)).2.2);rw[wrap64 o_ o_];omega
 |false=>
  have hx:Jy s=s:=by unfold Jy;rw[hg];rfl
  rw[hx]at h1 h2 h3 h4 h5 hb r1 r2 r3 hm⊢;have hl:Ad s=s.data.getD 0 0::(Ad s).drop 1:=by
   have:=drop_c (x:=s) (j:=0) o_;simpa using this
  have hs0:TP s 0 0=false:=by
   cases hs:TP s 0 0 with
   |false=>rfl
   |true=>
    obtain⟨m,em⟩:∃m,s.size=m+1:=⟨s.size-1,o_⟩;unfold J7 at h5;rw[em,H8 hs]at h5;cases h5
  unfold TP at hs0;simp only[AI,decide_eq_false_iff_not]at hs0;obtain⟨s1,s2⟩:=hs0;have ha:atoiAll (Ad s)=.ok ((J7 s).2.2.toNat:Int):=by
   rw[hl]at hm⊢;unfold atoiAll;simp only[];rw[AL o_,hm];simp only[];rw[AL o_,AL o_,AL o_]
  rw[ha];refine⟨rfl,?_⟩;unfold WN;show(((J7 s).2.2.toNat:Nat):Int)=(J7 s).2.2;omega
def pK(x:Y_):∀(m j a v:Nat),j+m=x.size->parseUint10 a ((Ad x).drop j)=.ok v->Bf (TP x) (VU x) m j (a:Int)=(false,x.size,(v:Int))
 |0,j,a,v,hj,h=>by
  have e:j=x.size:=o_;subst e;have:(Ad x).drop x.size=[]:=List.drop_eq_nil_of_le (AC (Ad x).length);rw[this]at h;have h':(NumEnd.ok a:NumEnd Nat)=.ok v:=h;cases h';rfl
 |m+1,j,a,v,hj,h=>by
  rw[drop_c (show j<x.size by omega)]at h;simp only[parseUint10]at h;split at h
  ·rename_i hc;split at h
   ·cases h
   ·split at h
    ·cases h
    ·have hs:TP x j (a:Int)=false:=by
      unfold TP;rw[AB o_,AB o_];rfl
     have e:VU x j (a:Int)=((a*10+((x.data.getD j 0).toNat-48):Nat):Int):=by
      show 10*(a:Int)+((((x.data.getD j 0).toNat:Nat):Int)-48)=_;omega
     rw[Fq hs,e];exact pK x m (j+1) _ v o_ h
  ·cases h
def YL{u:Nat}(hu:u<=1000000000):J7 (txt (decDigits u))=(false,(txt (decDigits u)).size,(u:Int)):=
 pK (txt (decDigits u)) _ 0 0 u (AE _) (by rw[CB];exact Ln.parse10_dec u u (AC _) o_)
def YW{x:Y_}{c:UInt8}{r:List UInt8}(h:Ad x=c::r):Ru x=(c.toNat:Int):=by
 have h0:0<x.size:=by
  have:(Ad x).length=x.size:=rfl;rw[h]at this;simp at this;omega
 have:=drop_c (x:=x) (j:=0) h0;rw[List.drop_zero,h]at this;cases this;rfl
def YN{u:Nat}(h:u<=1000000000):1<=(decDigits u).length∧(decDigits u).length<=10:=by
 rw[decDigits_length];have:=Go.Dec.nDigits_lt 9 u o_;have:=nDigits_pos u;omega
def qU{u:Nat}(h:1<(decDigits u).length):Ru (txt (decDigits u))≠48:=by
 have hu:1<=u:=by
  rcases Nat.eq_zero_or_pos u with h0|h0
  ·subst h0;rw[decDigits_length,nDigits_small o_]at h;omega
  ·exact h0
 obtain⟨c,r,h1,h2⟩:=KO u u (AC _) hu;rw[YW (x:=txt (decDigits u)) (by rw[CB];exact h1)];omega
def Z8(u:Nat):∃c r,decDigits u=c::r∧48<=c.toNat∧c.toNat<=57:=by
 cases hd:decDigits u with
 |nil=>exact absurd hd (HY u)
 |cons c r=>exact⟨c,r,rfl,Dz u u (AC _) c (by rw[hd];simp)⟩
def nu_itoa{n:Int}(h: -1000000000<=n∧n<=1000000000):nuB (ddP n)=true∧nuN (ddP n)=n:=by
 by_cases hn:n<0
 ·obtain⟨u,rfl⟩:∃u:Nat,n= -(u:Int):=⟨n.natAbs,o_⟩;have hd:ddP (-(u:Int))=txt (45::decDigits u):=by unfold ddP;rw[itoa_neg u o_]
  obtain⟨l1,l2⟩:=YN (u:=u) o_;have hg:Vt (txt (45::decDigits u))=true:=by
   unfold Vt;rw[YW (x:=txt (45::decDigits u)) rfl,Rt.txt_size,List.length_cons,A4 (show(((decDigits u).length+1:Nat):Int)>1 by omega)];rfl
  have hx:Jy (txt (45::decDigits u))=txt (decDigits u):=by
   unfold Jy;rw[hg,cond_true];refine Rt.by_inj ?_;rw[Ln.by_extract1];rfl
  have hr:=YL (u:=u) o_;have hB:nuB (txt (45::decDigits u))=true:=by
   unfold nuB WF;rw[hg,hx,hr,Rt.txt_size,A4 (show 1<=(decDigits u).length∧(decDigits u).length<=10 from⟨l1,l2⟩)];obtain⟨c,r,d1,d2⟩:=KO u u (AC _) o_;have h0:(Ru (txt (decDigits u))==48)=false:=beq_eq_false_iff_ne.2 (by rw[YW (x:=txt (decDigits u)) (by rw[CB];exact d1)];omega);rw[h0,Bool.and_false];rfl
  rw[hd];refine⟨hB,?_⟩;unfold nuN;rw[hB,cond_true];unfold WN;rw[hg,hx,hr,cond_true];show IntKind.i64.wrap (0-(u:Int))=_;rw[wrap64 o_ o_];omega
 ·obtain⟨u,rfl⟩:∃u:Nat,n=(u:Int):=⟨n.toNat,o_⟩;have hd:ddP (u:Int)=txt (decDigits u):=by unfold ddP;rw[itoa_nonneg u]
  obtain⟨l1,l2⟩:=YN (u:=u) o_;obtain⟨c,r,d1,d2,d3⟩:=Z8 u;have hg:Vt (txt (decDigits u))=false:=by
   unfold Vt;rw[YW (x:=txt (decDigits u)) (by rw[CB];exact d1),beq_eq_false_iff_ne.2 (show((c.toNat:Nat):Int)≠45 by omega),Bool.and_false]
  have hx:Jy (txt (decDigits u))=txt (decDigits u):=by unfold Jy;rw[hg];rfl
  have hr:=YL (u:=u) o_;have hB:nuB (txt (decDigits u))=true:=by
   unfold nuB WF;rw[hg,hx,hr,Rt.txt_size,A4 (show 1<=(decDigits u).length∧(decDigits u).length<=10 from⟨l1,l2⟩)];have h0:(decide ((decDigits u).length>1)&&Ru (txt (decDigits u))==48)=false:=by
    by_cases h1:1<(decDigits u).length
    ·rw[beq_eq_false_iff_ne.2 (qU h1),Bool.and_false]
    ·rw[AB h1,Bool.false_and]
   rw[h0];rfl
  rw[hd];refine⟨hB,?_⟩;unfold nuN;rw[hB,cond_true];unfold WN;rw[hg,hx,hr];rfl
end Go.Proofs.YtnljjjghpgdmoaaGreatDoor.Sc
namespace Go.Proofs.YtnljjjghpgdmoaaGreatDoor
open Go.Ev Go.Lib Go.RowKit
def IE(s:Y_):(Sc.cutR s 32).n=(AY s).n∧∀i,i<(AY s).n->(Sc.cutR s 32).S i 0=(AY s).S i 0:=by
 have h1:=Sc.cut_pieces s 32;have h2:=Ln.splS_pieces 32 s.size s (AC _);have h3:(strs (Sc.cutR s 32) (Sc.cutR s 32).n)=CX s sSpc:=by
  have:(strs (Sc.cutR s 32) (Sc.cutR s 32).n).map Ad=(CX s sSpc).map Ad:=h1.trans h2.symm;exact(List.map_inj_right (f:=Ad) (fun a b h=>by_inj h)).1 this
 have h4:(Sc.cutR s 32).n=(CX s sSpc).length:=by rw[<-h3];simp[strs]
 refine⟨h4,fun i hi=>?_⟩;have hi':i<(Sc.cutR s 32).n:=by rw[h4];exact hi
 have:(CX s sSpc).getD i .empty=(Sc.cutR s 32).S i 0:=by
  rw[<-h3];simp[strs,List.getD_eq_getElem?_getD,hi']
 exact this.symm
def bC(r:Row):Bool×Nat×Row:=Bf (fun j _=> !Sc.nuB (r.S j 0)) (fun j a=>Zu a (Sc.nuN (r.S j 0))) r.n 0 .nil
def En(r:Row):Bool:= !(bC r).1
def Cf(r:Row):Row:=bif (bC r).1 then .nil else Ae (bC r).2.2
def kC(r:Row):En r=true↔∀j,j<r.n->Sc.nuB (r.S j 0)=true:=by
 obtain⟨h1,_⟩:=IZ (stop:=fun j (_:Row)=> !Sc.nuB (r.S j 0)) (nx:=fun j a=>Zu a (Sc.nuN (r.S j 0))) (p:=fun j=> !Sc.nuB (r.S j 0)) (fun _ _=>rfl) r.n 0 .nil;have e:(bC r).1=Ag (fun j=> !Sc.nuB (r.S j 0)) r.n 0:=h1;unfold En;rw[e,Bool.not_eq_true',anyF_false];constructor
 ·intro h j hj;have:=h j (Nat.zero_le _) o_;simpa using this
 ·intro h j _ hj;rw[h j o_];rfl
def O9{β:Type}{stop stop':Nat->β->Bool}{nx nx':Nat->β->β}{n:Nat}(hs:∀j a,j<n->stop' j a=stop j a)(hn:∀j a,j<n->nx' j a=nx j a)(a:β):Bf stop' nx' n 0 a=Bf stop nx n 0 a:=
 PM (Inv:=fun _ _=>True) (len:=n) (fun _ _ _ _ _=>trivial) (fun j a hj _=>hs j a hj) (fun j a hj _=>hn j a hj) (AE n) trivial
def Aq0{r:Row}(h:En r=true):aT r=bC r:=by
 have ha:=(kC r).1 h;refine O9 (fun j a hj=>?_) (fun j a hj=>?_) Row.nil
 ·rw[(Sc.nu_ai (ha j hj)).1,ha j hj];rfl
 ·rw[(Sc.nu_ai (ha j hj)).2]
def Xa{r:Row}(h:En r=true):Et r=true∧BU r=Cf r:=by
 have e:=Aq0 h;unfold Et BU Cf;rw[e];exact⟨h,rfl⟩
def SmW(r r':Row):Prop:=r.n=r'.n∧∀i,i<r'.n->r.S i 0=r'.S i 0
def SmW.tl{r r':Row}(h:SmW r r'):SmW (BG r) (BG r'):=by
 refine⟨by unfold BG;rw[wn_,wn_,h.1],fun i hi=>?_⟩;unfold BG at hi⊢;rw[wn_]at hi;rw[Ob,Ob];exact h.2 _ o_
def SmW.nz{r r':Row}(h:SmW r r'):bC r=bC r':=by
 unfold bC;rw[h.1];exact O9 (fun j a hj=>by rw[h.2 j hj]) (fun j a hj=>by rw[h.2 j hj]) Row.nil
def SmW.qi{r r':Row}(h:SmW r r'):Un r=Un r':=by
 unfold Un;rw[h.1];exact O9 (fun j a hj=>by rw[h.2 j hj]) (fun j a hj=>by rw[h.2 j hj]) Row.nil
def BD(w:List UInt8)(t:Row)(x:Px):Bool×Px:=
 bif w==Ad sPiece then(BP t&&evB (BL t).n,{x with pi:=Em x.pi (Ae (FP (BL t)))})else
 bif w==Ad sWorth then(BP t,{x with wo:=Em x.wo (Ae (BL t))})else
 bif !En t then(false,x)else
 bif w==Ad sCake then(bif decide (2<=(Cf t).n)&&decide ((Cf t).n%2=0)then(true,{x with ca:=PH x.ca (Cf t)})else(false,x))else
 bif w==Ad sValues then(true,bif x.k==2 then{x with gv:=Em x.gv (Ae (Cf t))}else{x with fv:=Em x.fv (Ae (Cf t))})else
 bif w==Ad sGive then(true,{x with aa:=Cf t})else
 bif w==Ad sRent then(bif (Cf t).n=1 then(true,{x with rr:=(Cf t).I 0 0})else(false,x))else
 bif w==Ad sRooms then(true,{x with lr:=Cf t})else
 bif w==Ad sPrices then(bif 0<(Cf t).n then(true,{x with ld:=(Cf t).I 0 0,lp:=Cf t,lpo:=1,lpn:=(Cf t).n-1})else(false,x))else
 bif w==Ad sBalances then(true,{x with ba:=Cf t})else
 bif w==Ad sPay then(bif (Cf t).n=3 then(true,{x with pa:=Ny x.pa (Cf t)})else(false,x))else
 bif w==Ad sClaims then(bif (Cf t).n=1∧0<=(Cf t).I 0 0∧(Cf t).I 0 0<=31 then(true,bif x.k==1 then{x with pc:=IntKind.u8.wrap ((Cf t).I 0 0)}else{x with cl:=IntKind.u8.wrap ((Cf t).I 0 0)})else(false,x))else(false,x)
def OU(w:List UInt8)(r:Row)(x:Px):Bool×Px:=BD w (BG r) x
def rdZ(ln:Y_)(x:Px):Bool×Px:=OU (Ad ((Sc.cutR ln 32).S 0 0)) (Sc.cutR ln 32) x
def SmW.rdZ{r r':Row}(h:SmW r r')(w:List UInt8)(x:Px):OU w r x=OU w r' x:=by
 have e1:=h.tl.nz;have e2:=h.tl.qi;have q1:BP (BG r)=BP (BG r'):=by unfold BP;rw[e2]
 have q2:BL (BG r)=BL (BG r'):=by unfold BL;rw[e2]
 have q3:En (BG r)=En (BG r'):=by unfold En;rw[e1]
 have q4:Cf (BG r)=Cf (BG r'):=by unfold Cf;rw[e1]
 unfold OU BD;rw[q1,q2,q3,q4]
def Af9(s:Y_):SmW (Sc.cutR s 32) (AY s):=⟨(IE s).1,(IE s).2⟩
def Yb(s:Y_):0<(AY s).n:=by
 have:=Gs s;omega
def VF(s:Y_)(x:Px):rdZ s x=OU (Ad ((AY s).S 0 0)) (AY s) x:=by
 unfold rdZ;rw[(Af9 s).rdZ,(IE s).2 0 (Yb s)]
def An8{w:List UInt8}{r:Row}{x:Px}(h:(OU w r x).1=true):Ce w r x=OU w r x:=by
 unfold OU BD at h⊢;unfold Ce;cases hP:w==Ad sPiece
 ·rw[hP]at h;cases hW:w==Ad sWorth
  ·rw[hW]at h;cases hB:En (BG r)
   ·rw[hB]at h;cases h
   ·obtain⟨e1,e2⟩:=Xa hB;rw[e1,e2];rfl
  ·rw[hW]at h;replace h:BP (BG r)=true:=h;rw[h];rfl
 ·rw[hP]at h;replace h:(BP (BG r)&&evB (BL (BG r)).n)=true:=h;rw[A2]at h;rw[h.1,h.2];rfl
def Ap3{w:List UInt8}{r:Row}{x:Px}(h:(Ce w r x).1=true)(hn:w=Ad sPiece∨w=Ad sWorth∨En (BG r)=true):OU w r x=Ce w r x:=by
 unfold Ce at h⊢;unfold OU BD;cases hP:w==Ad sPiece
 ·rw[hP]at h;cases hW:w==Ad sWorth
  ·have hB:En (BG r)=true:=by
    rcases hn with rfl|rfl|hn
    ·rw[beq_self_eq_true]at hP;cases hP
    ·rw[beq_self_eq_true]at hW;cases hW
    ·exact hn
   obtain⟨e1,e2⟩:=Xa hB;rw[hB,e1,e2];rfl
  ·rw[hW]at h;cases hq:BP (BG r)
   ·rw[hq]at h;cases h
   ·rfl
 ·rw[hP]at h;cases hq:BP (BG r)
  ·rw[hq]at h;cases h
  ·rfl
set_option maxRecDepth 100000
def pF:Dl:={τ:=[.v (.sl 0)]++pu 3++[.v (.sl 1),.v (.int .i64)]++pu 23,saved:=[[]],mem:=[.row [.str] false,.row Ar true]}
structure A_nu3 where
 n:Nat
 on:Nat
 j:Int
 r:Row
 o:Row
def kP(its:List It):Option A_nu3:=match its with|[.n n,.n on,.i j,.r r,.r o]=>some ⟨n,on,j,r,o⟩|_=>none
def dG(x:A_nu3):Bool:=x.j=0∧x.on=x.o.n∧x.n<=1000000∧x.o.n=0
def c_nu3_iff{x:A_nu3}:=@Bl _ dG _ _ rfl x
def nu3:RunL A_nu3 (Row):=⟨74,3,[0,4,5,1960004],[2,3,4],pF,kP,fun x j a=>[.n x.n,.n a.n,.i (j:Int),.r x.r,.r a],fun x=>x.n,dG,fun x=>x.o,fun x j a=> !Sc.nuB (x.r.S j 0),fun x j a=>Zu a (Sc.nuN (x.r.S j 0)),fun x j a K=>K .ret ⟨us 2++[.slice none 0 0,.bool false,.slice (some ⟨0,0,some 0⟩) ((a.n)) 0]++us 24,[[]],[some (.row Ar true ((a)))]⟩,fun x a K=>K (.exit 0) ⟨us 4++[.slice (some ⟨0,0,some 0⟩) ((a.n)) 0]++us 24,[[]],[some (.row Ar true ((a)))]⟩⟩
def lJ:Dl:={τ:=[.v (.sl 0)]++pu 3++[.v (.sl 1),.v (.int .i64)]++pu 23,saved:=[[]],mem:=[.row [.str] false,.row JD true]}
structure A_sh3 where
 n:Nat
 on:Nat
 j:Int
 r:Row
 o:Row
def dN(its:List It):Option A_sh3:=match its with|[.n n,.n on,.i j,.r r,.r o]=>some ⟨n,on,j,r,o⟩|_=>none
def bY(x:A_sh3):Bool:=x.j=0∧x.on=x.o.n∧x.n<=1000000∧szP x.r∧x.r.n=x.n∧x.o.n=0
def c_sh3_iff{x:A_sh3}:=@Bl _ bY _ _ rfl x
def sh3:RunL A_sh3 (Row):=⟨73,3,[0,4,5,31400004],[2,3,4],lJ,dN,fun x j a=>[.n x.n,.n a.n,.i (j:Int),.r x.r,.r a],fun x=>x.n,bY,fun x=>x.o,fun x j a=>Rt.rpE (Ad (x.r.S j 0)) !=0,fun x j a=>Zv a (Rt.rpN (Ad (x.r.S j 0))) (Rt.rpD (Ad (x.r.S j 0))),fun x j a K=>K .ret ⟨us 2++[.slice none 0 0,.bool false,.slice (some ⟨0,0,some 0⟩) ((a.n)) 0]++us 24,[[]],[some (.row JD true ((a)))]⟩,fun x a K=>K (.exit 0) ⟨us 4++[.slice (some ⟨0,0,some 0⟩) ((a.n)) 0]++us 24,[[]],[some (.row JD true ((a)))]⟩⟩
noncomputable def Cnz:Cx:=AP Tryz.prog fns [(118,Sc.Fnum)] [nu3.C]
noncomputable def Csz:Cx:=AP Tryz.prog fns [(117,Rt.Fps)] [sh3.C]
def Adf(R:St->OD)(K:X->St->OD)(q n on:Nat)(j:Int)(r o:Row):Ak Cnz 74 3 q (bst pF [.n n,.n on,.i j,.r r,.r o]) (BF [0,4,5,1960004] (some [2,3,4]) R K)=br (j<(n:Int)) (br (0<=j&&j<(n:Int)) (br (!Sc.nuB (r.S (0+j.toNat) 0)) (K .ret ⟨us 2++[.slice none 0 0,.bool false,S_ 0 0 on]++us 24,[[]],[Ij Ar o]⟩) (br (on+(w_ ((Row.zeros 1).setI 0 0 (Sc.nuN (r.S (0+j.toNat) 0))) 0 1).n<=10000000000) (R (bst pF [.n n,.n (on+1),.i (IntKind.i64.wrap (j+1)),.r r,.r ((w_ o 0 on).app (w_ ((Row.zeros 1).setI 0 0 (Sc.nuN (r.S (0+j.toNat) 0))) 0 1))])) none)) none) (K (.exit 0) ⟨us 4++[S_ 0 0 on]++us 24,[[]],[Ij Ar o]⟩):=k_
def Afo(R:St->OD)(K:X->St->OD)(q n on:Nat)(j:Int)(r o:Row):Ak Csz 73 3 q (bst lJ [.n n,.n on,.i j,.r r,.r o]) (BF [0,4,5,31400004] (some [2,3,4]) R K)=br (j<(n:Int)) (br (0<=j&&j<(n:Int)) (br ((r.S (0+j.toNat) 0).size<=4000000000) (br (Rt.rpE (Ad (r.S (0+j.toNat) 0)) !=0) (K .ret ⟨us 2++[.slice none 0 0,.bool false,S_ 0 0 on]++us 24,[[]],[Ij JD o]⟩) (br (on+(w_ (((Row.zeros 1).setI 0 0 (Rt.rpN (Ad (r.S (0+j.toNat) 0)))).setI 0 1 (Rt.rpD (Ad (r.S (0+j.toNat) 0)))) 0 1).n<=10000000000) (R (bst lJ [.n n,.n (on+1),.i (IntKind.i64.wrap (j+1)),.r r,.r ((w_ o 0 on).app (w_ (((Row.zeros 1).setI 0 0 (Rt.rpN (Ad (r.S (0+j.toNat) 0)))).setI 0 1 (Rt.rpD (Ad (r.S (0+j.toNat) 0)))) 0 1))])) none)) none) none) (K (.exit 0) ⟨us 4++[S_ 0 0 on]++us 24,[[]],[Ij JD o]⟩):=k_
def unz(r:Row):BH Cnz 6 74 [.slice ksS r]=br (dG (⟨r.n,0,0,r,Row.nil⟩:A_nu3)) (br ((Bf (nu3.stop (⟨r.n,0,0,r,Row.nil⟩:A_nu3)) (nu3.nx (⟨r.n,0,0,r,Row.nil⟩:A_nu3)) (nu3.len (⟨r.n,0,0,r,Row.nil⟩:A_nu3)) 0 (nu3.ini (⟨r.n,0,0,r,Row.nil⟩:A_nu3))).1) (some [.slice Ar Row.nil,.v (.bool false)]) (some [.slice Ar (w_ (Bf (nu3.stop (⟨r.n,0,0,r,Row.nil⟩:A_nu3)) (nu3.nx (⟨r.n,0,0,r,Row.nil⟩:A_nu3)) (nu3.len (⟨r.n,0,0,r,Row.nil⟩:A_nu3)) 0 (nu3.ini (⟨r.n,0,0,r,Row.nil⟩:A_nu3))).snd.2 0 (Bf (nu3.stop (⟨r.n,0,0,r,Row.nil⟩:A_nu3)) (nu3.nx (⟨r.n,0,0,r,Row.nil⟩:A_nu3)) (nu3.len (⟨r.n,0,0,r,Row.nil⟩:A_nu3)) 0 (nu3.ini (⟨r.n,0,0,r,Row.nil⟩:A_nu3))).snd.2.n),.v (.bool true)])) (none):=k_
def usz(r:Row):BH Csz 6 73 [.slice ksS r]=br (bY (⟨r.n,0,0,r,Row.nil⟩:A_sh3)) (br ((Bf (sh3.stop (⟨r.n,0,0,r,Row.nil⟩:A_sh3)) (sh3.nx (⟨r.n,0,0,r,Row.nil⟩:A_sh3)) (sh3.len (⟨r.n,0,0,r,Row.nil⟩:A_sh3)) 0 (sh3.ini (⟨r.n,0,0,r,Row.nil⟩:A_sh3))).1) (some [.slice JD Row.nil,.v (.bool false)]) (some [.slice JD (w_ (Bf (sh3.stop (⟨r.n,0,0,r,Row.nil⟩:A_sh3)) (sh3.nx (⟨r.n,0,0,r,Row.nil⟩:A_sh3)) (sh3.len (⟨r.n,0,0,r,Row.nil⟩:A_sh3)) 0 (sh3.ini (⟨r.n,0,0,r,Row.nil⟩:A_sh3))).snd.2 0 (Bf (sh3.stop (⟨r.n,0,0,r,Row.nil⟩:A_sh3)) (sh3.nx (⟨r.n,0,0,r,Row.nil⟩:A_sh3)) (sh3.len (⟨r.n,0,0,r,Row.nil⟩:A_sh3)) 0 (sh3.ini (⟨r.n,0,0,r,Row.nil⟩:A_sh3))).snd.2.n),.v (.bool true)])) (none):=k_
def Ahm:Ah Cnz nu3.C:=nu3.ok (fun _ j a=>a.n=j) k_
 (fun its x h hc=>by
  replace h:kP its=some x:=h;unfold kP at h;split at h
  ·cases h;have h:=c_nu3_iff.1 hc;dsimp only at h;obtain⟨rfl,rfl,_⟩:=h;rfl
  ·cases h)
 (fun x hc=>by have:=c_nu3_iff.1 hc;show x.n<2^64;omega)
 (fun x hc=>by
  exact(c_nu3_iff.1 hc).2.2.2)
 (fun x j a hc hi hI hs=>by
  show a.n+1=j+1;have hI:a.n=j:=hI;rw[hI])
 (fun q ⟨n,on0,j0,r,o0⟩ j a hc hi hI R K=>by
  obtain⟨h1,h2,h3,h4⟩:=c_nu3_iff.1 hc;dsimp only at*
  replace hi:j<n:=hi;refine(Adf R K q n ((a.n)) ((j:Int)) r ((a))).trans ?_;replace hI:a.n=j:=hI;rw[A9,AE j,gd j n hi,DX j n hi,Eg o_];show br (!Sc.nuB (r.S j 0)) _ (br (decide (a.n+1<=10000000000)) _ none)=_;rw[A4 (show a.n+1<=10000000000 by omega)];rfl)
 (fun q ⟨n,on0,j0,r,o0⟩ a hc hI R K=>by
  obtain⟨h1,h2,h3,h4⟩:=c_nu3_iff.1 hc;dsimp only at*
  refine(Adf R K q n ((a.n)) ((n:Int)) r ((a))).trans ?_;rw[EU n];rfl)
def Agf:Ah Csz sh3.C:=sh3.ok (fun _ j a=>a.n=j) k_
 (fun its x h hc=>by
  replace h:dN its=some x:=h;unfold dN at h;split at h
  ·cases h;have h:=c_sh3_iff.1 hc;dsimp only at h;obtain⟨rfl,rfl,_⟩:=h;rfl
  ·cases h)
 (fun x hc=>by have:=c_sh3_iff.1 hc;show x.n<2^64;omega)
 (fun x hc=>by
  exact(c_sh3_iff.1 hc).2.2.2.2.2)
 (fun x j a hc hi hI hs=>by
  show a.n+1=j+1;have hI:a.n=j:=hI;rw[hI])
 (fun q ⟨n,on0,j0,r,o0⟩ j a hc hi hI R K=>by
  obtain⟨h1,h2,h3,h4,h5,h6⟩:=c_sh3_iff.1 hc;dsimp only at*
  replace hi:j<n:=hi;refine(Afo R K q n ((a.n)) ((j:Int)) r ((a))).trans ?_;replace hI:a.n=j:=hI;have k1:=h4 j o_;rw[A9,AE j,gd j n hi,DX j n hi,Eg o_,A4 (show(r.S j 0).size<=4000000000 by omega)];show br (Rt.rpE (Ad (r.S j 0)) !=0) _ (br (decide (a.n+1<=10000000000)) _ none)=_;rw[A4 (show a.n+1<=10000000000 by omega)];rfl)
 (fun q ⟨n,on0,j0,r,o0⟩ a hc hI R K=>by
  obtain⟨h1,h2,h3,h4,h5,h6⟩:=c_sh3_iff.1 hc;dsimp only at*
  refine(Afo R K q n ((a.n)) ((n:Int)) r ((a))).trans ?_;rw[EU n];rfl)
def Ak3:LH Cnz Wd:=BA enter mixed (Aw (Sc.den_num.at _) AX) (Aw Ahm AX)
def Aj2:LH Csz Wd:=BA enter mixed (Aw (Rt.den_parr.at _) AX) (Aw Agf AX)
def bU:DenW Tryz.prog Wd 74 (JY AV Cf En):=CO Ak3 fun ds rs h=>by
 unfold JY at h;split at h
 ·rename_i r;simp only[A5,A6]at h;obtain⟨h0,rfl⟩:=h;obtain⟨h1,h2⟩:=JK h0;refine(unz r).trans ?_;rw[c_nu3_iff.2 ⟨rfl,rfl,h1,rfl⟩,Aa];show br (bC r).1 (some [D.slice Ar .nil,D.v (.bool false)]) (some [D.slice Ar (Ae (bC r).2.2),D.v (.bool true)])=_;unfold Cf En;cases(bC r).1<;>rfl
 ·cases h
def kV:DenW Tryz.prog Wd 73 (Ko AV BL BP):=CO Aj2 fun ds rs h=>by
 unfold Ko at h;split at h
 ·rename_i r;simp only[A5,A6]at h;obtain⟨h0,rfl⟩:=h;obtain⟨h1,h2⟩:=JK h0;refine(usz r).trans ?_;rw[c_sh3_iff.2 ⟨rfl,rfl,h1,h2,rfl,rfl⟩,Aa];show br (Un r).1 (some [D.slice JD .nil,D.v (.bool false)]) (some [D.slice JD (Ae (Un r).2.2),D.v (.bool true)])=_;unfold BL BP;cases(Un r).1<;>rfl
 ·cases h
def IX(k:UInt8):∀l:List UInt8,∃p ps,Ln.pieces k l=p::ps∧l=p++(ps.map (k:: ·)).flatten∧∀q∈p::ps,∀c∈q,c≠k
 |[]=>⟨[],[],rfl,rfl,fun q hq c hc=>by simp at hq;subst hq;cases hc⟩
 |c::l=>by
  obtain⟨p,ps,h1,h2,h3⟩:=IX k l;by_cases hc:c=k
  ·refine⟨[],p::ps,?_,?_,fun q hq=>?_⟩
   ·show(if c=k then []::Ln.pieces k l else _)=_;rw[AM hc,h1]
   ·rw[hc];show k::l=[]++((k::p)++(ps.map (k:: ·)).flatten);rw[List.nil_append,List.cons_append,<-h2]
   ·rcases A8.1 hq with rfl|hq
    ·intro c hc;cases hc
    ·exact h3 q hq
  ·refine⟨c::p,ps,?_,?_,fun q hq=>?_⟩
   ·show(if c=k then []::Ln.pieces k l else match Ln.pieces k l with|[]=>[[c]]|p::ps=>(c::p)::ps)=_
    rw[AL hc,h1]
   ·rw[List.cons_append,<-h2]
   ·rcases A8.1 hq with rfl|hq
    ·intro d hd;rcases A8.1 hd with rfl|hd
     ·exact hc
     ·exact h3 p (List.mem_cons_self ..) d hd
    ·exact h3 q (List.mem_cons_of_mem _ hq)
def YE:∀ls:List (List UInt8),(ls.map ((10:UInt8):: ·)).flatten++[10]=10::IA ls
 |[]=>rfl
 |l::ls=>by
  have h:=YE ls;show((10::l)++(ls.map ((10:UInt8):: ·)).flatten)++[10]=10::((l++[10])++IA ls);rw[List.append_assoc,h];simp
inductive RdZL:Px->List (List UInt8)->Px->Prop
 |nil{p:Px}:RdZL p [] p
 |cons{p q r:Px}{l:List UInt8}{ls:List (List UInt8)}(h:rdZ (txt l) p=(true,q))(t:RdZL q ls r):RdZL p (l::ls) r
def aF(L:Row)(j:Nat)(p:Px):Bool:= !(rdZ (L.S (1+j) 0) p).1
def Xr(L:Row)(j:Nat)(p:Px):Px:=(rdZ (L.S (1+j) 0) p).2
def VR{L:Row}:∀(ls:List (List UInt8))(j:Nat)(p:Px),(∀i (hi:i<ls.length),L.S (1+(j+i)) 0=txt ls[i])->
  ((Bf (aF L) (Xr L) ls.length j p).1=false->RdZL p ls (Bf (aF L) (Xr L) ls.length j p).2.2)∧∀q,RdZL p ls q->(Bf (aF L) (Xr L) ls.length j p).1=false∧(Bf (aF L) (Xr L) ls.length j p).2.2=q
 |[],j,p,_=>⟨fun _=>.nil,fun q h=>by cases h;exact⟨rfl,rfl⟩⟩
 |l::ls,j,p,hL=>by
  have h0:L.S (1+j) 0=txt l:=by
   have:=hL 0 y_;simpa using this
  have hr:=VR (L:=L) ls (j+1) (Xr L j p) fun i hi=>by
   have:=hL (i+1) z_;rw[show j+1+i=j+(i+1) by omega,this];simp
  have es:aF L j p= !(rdZ (txt l) p).1:=by unfold aF;rw[h0]
  have en:Xr L j p=(rdZ (txt l) p).2:=by unfold Xr;rw[h0]
  constructor
  ·intro h;cases hs:aF L j p with
   |true=>
    rw[List.length_cons,H8 hs]at h;cases h
   |false=>
    rw[List.length_cons,Fq hs]at h⊢;refine .cons (q:=Xr L j p) ?_ (hr.1 h);rw[es]at hs;rw[en];have hs':(rdZ (txt l) p).1=true:=by simpa using hs
    rw[<-hs']
  ·intro q h;cases h with
   |@cons _ q' _ _ _ h t=>
    have hs:aF L j p=false:=by rw[es,h];rfl
    have hn:Xr L j p=q':=by rw[en,h]
    rw[List.length_cons,Fq hs];rw[hn]at hr⊢;exact hr.2 q t
def RdZL.rd{p q:Px}{ls:List (List UInt8)}(h:RdZL p ls q)(h10:∀l∈ls,∀c∈l,c≠10):RdL p ls q:=by
 induction h with
 |nil=>exact .nil
 |@cons p q r l ls h _ ih=>
  refine .cons (h10 l (List.mem_cons_self ..)) ?_ (ih fun l hl=>h10 l (List.mem_cons_of_mem _ hl));have h1:(OU (Ad ((AY (txt l)).S 0 0)) (AY (txt l)) p).1=true:=by rw[<-VF,h]
  show Ce (Ad ((AY (txt l)).S 0 0)) (AY (txt l)) p=_;rw[An8 h1,<-VF,h]
def GdL(l:List UInt8):Prop:=Ad ((AY (txt l)).S 0 0)=Ad sPiece∨Ad ((AY (txt l)).S 0 0)=Ad sWorth∨En (BG (AY (txt l)))=true
def RdL.rz{p q:Px}{ls:List (List UInt8)}(h:RdL p ls q)(hg:∀l∈ls,GdL l):RdZL p ls q:=by
 induction h with
 |nil=>exact .nil
 |@cons p q r l ls h10 h _ ih=>
  refine .cons ?_ (ih fun l hl=>hg l (List.mem_cons_of_mem _ hl));have h1:(Ce (Ad ((AY (txt l)).S 0 0)) (AY (txt l)) p).1=true:=by
   show(Eo (txt l) p).1=true;rw[h]
  rw[VF,Ap3 h1 (hg l (List.mem_cons_self ..))];exact h
def Ajt{word:Y_}(hw:∀c∈Ad word,c≠32){x:Nat->Int}{n:Nat}(hx:∀j,j<n-> -1000000000<=x j∧x j<=1000000000):GdL (Ad word++BI x n):=by
 have hs:txt (Ad word++BI x n)=txt (Ad word++(((List.range n).map fun j=>itoa (x j)).map (32:: ·)).flatten):=by rw[<-U1]
 obtain⟨h1,h2,h3,h4⟩:=Q9 (Ad word) n (fun j=>itoa (x j)) hw (fun j _=>Acw _);rw[<-hs]at h1 h2 h3 h4;refine .inr (.inr ((kC _).2 fun j hj=>?_));rw[h3]at hj;rw[h4 j hj];exact(Sc.nu_itoa (hx j hj)).1
def Aji{word:Y_}(hw:∀c∈Ad word,c≠32)(h:Ad word=Ad sPiece∨Ad word=Ad sWorth){x:Nat->Int×Int}{n:Nat}:GdL (Ad word++FO x n):=by
 have hs:txt (Ad word++FO x n)=txt (Ad word++(((List.range n).map fun j=>N8 (x j)).map (32:: ·)).flatten):=by rw[<-UM]
 obtain⟨h1,h2,h3,h4⟩:=Q9 (Ad word) n (fun j=>N8 (x j)) hw (fun j _ c hc=>(lH _ c hc).1);rw[<-hs]at h2;unfold GdL;rw[h2,CB];rcases h with h|h
 ·exact .inl h
 ·exact .inr (.inl h)
def lT(x:A_lpl):∀(ls:List (List UInt8))(p:Px)(rest:Y_),(∀l∈ls,∀c∈l,c≠10)->Ad rest=IA ls->∀j,(Bf (lpl.stop x) (lpl.nx x) (Ln.lnN rest) j ⟨rest,p⟩).1=false->RdL p ls (Bf (lpl.stop x) (lpl.nx x) (Ln.lnN rest) j ⟨rest,p⟩).2.2.p
 |[],p,rest,_,hr,j,h=>by
  rw[Ln.lnN_nil hr];exact .nil
 |l::ls,p,rest,h10,hr,j,h=>by
  have e:Ad rest=l++10::IA ls:=by rw[hr];simp[IA]
  have e2:rest=txt (l++10::IA ls):=by rw[<-e,txt_by]
  obtain⟨-,h1,h2⟩:=Ln.sp_line (x:=l) (y:=IA ls) (h10 l (List.mem_cons_self ..));rw[<-e2]at h1 h2;have hne:Ad rest≠[]:=by rw[e];simp
  rw[Ln.lnN_rest hne]at h⊢;cases hs:lpl.stop x j ⟨rest,p⟩with
  |true=>
   rw[H8 hs]at h;cases h
  |false=>
   rw[Fq hs]at h⊢;have hs':(Eo (txt l) p).1=true:=by
    have:(!(Eo (Ln.oneB rest) p).1)=false:=hs;rw[h1]at this;simpa using this
   have hn:lpl.nx x j ⟨rest,p⟩=⟨Ln.restB rest,(Eo (txt l) p).2⟩:=by
    show(⟨Ln.restB rest,(Eo (Ln.oneB rest) p).2⟩:Pa)=_;rw[h1]
   rw[hn]at h⊢;refine .cons (h10 l (List.mem_cons_self ..)) (q:=(Eo (txt l) p).2) (by rw[<-hs']) ?_;exact lT x ls _ (Ln.restB rest) (fun l hl=>h10 l (List.mem_cons_of_mem _ hl)) (by rw[h2,CB]) (j+1) h
def Yu:Value:=.pointer (some ⟨2,0,some 0⟩)
def lnS(ln:Nat):Value:=(S_ 1 0 ln)
def wSl(w1 wn:Nat):Value:=(S_ 13 w1 wn)
def zMx(li:Row)(x:Px)(t:M_):M_:=some (.box [.int .u8 0,.slice none 0 0,.slice none 0 0,.int .u8 0,.slice none 0 0,.slice none 0 0,.slice none 0 0,.slice none 0 0,i64 0,.slice none 0 0,.slice none 0 0,i64 0,.slice none 0 0,.slice none 0 0,.int .u8 0])::some (.row [.str] true li)::some (.box [.int .u8 x.k,S_ 3 0 x.ca.n,S_ 4 0 x.pi.n,.int .u8 x.pc,S_ 5 0 x.wo.n,S_ 6 0 x.gv.n,S_ 7 0 x.aa.n,S_ 8 0 x.fv.n,i64 x.rr,S_ 9 0 x.lr.n,S_ 10 x.lpo x.lpn,i64 x.ld,S_ 11 0 x.ba.n,S_ 12 0 x.pa.n,.int .u8 x.cl])::some (.deep DV x.ca none)::some (.deep Fh x.pi none)::some (.deep Es x.wo none)::some (.deep Cc x.gv none)::some (.row Ar true x.aa)::some (.deep Cc x.fv none)::some (.row Ar true x.lr)::some (.row Ar true x.lp)::some (.row Ar true x.ba)::some (.row Ht true x.pa)::t
def zSx(ln:Nat)(li wr:Row)(x:Px):St:={τ:=[bx0,lnS ln,Yu],saved:=[],mem:=zMx li x [some (.row [.str] true wr)]}
def zSt(ln:Nat)(li:Row)(x:Px):St:={τ:=[bx0,lnS ln,Yu],saved:=[],mem:=zMx li x []}
noncomputable def Eh(nC:Row->Bool)(nR:Row->Row)(nB qC:Row->Bool)(qR:Row->Row)(qB:Row->Bool):Cx:=AP Tryz.prog fns [(74,JY nC nR nB),(73,Ko qC qR qB)] []
noncomputable def Acu(nC:Row->Bool)(nR:Row->Row)(nB qC:Row->Bool)(qR:Row->Row)(qB:Row->Bool):Cx:={AP Tryz.prog fns [(74,JY nC nR nB),(73,Ko qC qR qB)] []with no:=noW}
noncomputable def Nu(C:Cx)(K:Value->St->OD)(w1 wn ln:Nat)(wr li:Row)(x:Px)(w:Y_):OD:=inl C 8 30 [Yu,.string w,wSl w1 wn] (zSx ln li wr x) (fun v s=>K v (Nh [0,1,2] s))
section
variable(nC:Row->Bool)(nR:Row->Row)(nB qC:Row->Bool)(qR:Row->Row)(qB:Row->Bool)(K:Value->St->OD)(w1 wn ln:Nat)(wr li:Row)(x:Px)
def kZ(b:Bool)(y:Px):OD:=K (.bool b) (zSt ln li y)
def lV(t:Row)(f:Row->(Bool->Px->OD)->OD):OD:=br (nC t) (br (!nB t) (kZ K ln li false x) (f (nR t) (kZ K ln li))) none
set_option maxRecDepth 100000
def Ao8:Nu (Eh nC nR nB qC qR qB) K w1 wn ln wr li x sGive=lV nC nR nB K ln li x (w_ wr w1 wn) (fun l k=>k true {x with aa:=l}):=k_
def Ajn:Nu (Eh nC nR nB qC qR qB) K w1 wn ln wr li x sRooms=lV nC nR nB K ln li x (w_ wr w1 wn) (fun l k=>k true {x with lr:=l}):=k_
def aB:Nu (Eh nC nR nB qC qR qB) K w1 wn ln wr li x sBalances=lV nC nR nB K ln li x (w_ wr w1 wn) (fun l k=>k true {x with ba:=l}):=k_
def Abv:Nu (Eh nC nR nB qC qR qB) K w1 wn ln wr li x sValues=lV nC nR nB K ln li x (w_ wr w1 wn) (fun l k=>br (x.k==2) (br (x.gv.n+1<=10000000000) (k true {x with gv:=Em x.gv (Ae l)}) none) (br (x.fv.n+1<=10000000000) (k true {x with fv:=Em x.fv (Ae l)}) none)):=k_
def Aom:Nu (Eh nC nR nB qC qR qB) K w1 wn ln wr li x sRent=lV nC nR nB K ln li x (w_ wr w1 wn) (fun l k=>br ((l.n:Int) !=1) (k false x) (g0 l (k true {x with rr:=l.I 0 0}))):=k_
def Acd:Nu (Eh nC nR nB qC qR qB) K w1 wn ln wr li x sPrices=lV nC nR nB K ln li x (w_ wr w1 wn) (fun l k=>br ((l.n:Int)<1) (k false x) (g0 l (br (0<=(l.n:Int)&&(l.n:Int)<=(l.n:Int)) (br ((0:Int)<=1&&(1:Int)<=(((l.n:Int).toNat:Nat):Int)) (k true {x with ld:=l.I 0 0,lp:=l,lpo:=1,lpn:=(l.n:Int).toNat-1}) none) none))):=k_
def Arl:Nu (Eh nC nR nB qC qR qB) K w1 wn ln wr li x sPay=lV nC nR nB K ln li x (w_ wr w1 wn) (fun l k=>br ((l.n:Int) !=3) (k false x) (g0 l (br ((0:Int)<=1&&1<(l.n:Int)) (br ((0:Int)<=2&&2<(l.n:Int)) (br (x.pa.n+1<=10000000000) (k true {x with pa:=Ny x.pa l}) none) none) none))):=k_
def yE:Nu (Eh nC nR nB qC qR qB) K w1 wn ln wr li x sClaims=lV nC nR nB K ln li x (w_ wr w1 wn) (fun l k=>br ((l.n:Int) !=1) (k false x) (g0 l (br (l.I 0 0<0) (k false x) (g0 l (br (l.I 0 0>31) (k false x) (br (x.k==1) (g0 l (k true {x with pc:=IntKind.u8.wrap (l.I 0 0)})) (g0 l (k true {x with cl:=IntKind.u8.wrap (l.I 0 0)})))))))):=k_
def Aou:Nu (Eh nC nR nB qC qR qB) K w1 wn ln wr li x sCake=lV nC nR nB K ln li x (w_ wr w1 wn) (fun l k=>br ((l.n:Int)<2) (k false x) (br ((l.n:Int).tmod 2 !=0) (k false x) (g0 l (br (0<=Qd l&&Qd l<=(l.n:Int)) (br ((0:Int)<=1&&(1:Int)<=(((Qd l).toNat:Nat):Int)) (br (0<=(l.n:Int)&&(l.n:Int)<=(l.n:Int)) (br (0<=Qd l&&Qd l<=(((l.n:Int).toNat:Nat):Int)) (br (x.ca.n+1<=10000000000) (k true {x with ca:=(w_ x.ca 0 x.ca.n).app (w_ ((((Row.zeros 1).setI 0 0 (l.I 0 0)).setR 0 1 (w_ l 1 ((Qd l).toNat-1))).setR 0 2 (w_ l (0+(Qd l).toNat) ((l.n:Int).toNat-(Qd l).toNat))) 0 1)}) none) none) none) none) none)))):=k_
def Aiw:Nu (Eh nC nR nB qC qR qB) K w1 wn ln wr li x sWorth=br (qC (w_ wr w1 wn)) (br (x.wo.n+1<=10000000000) (kZ K ln li (qB (w_ wr w1 wn)) {x with wo:=Em x.wo (Ae (qR (w_ wr w1 wn)))}) none) none:=k_
def Aop(word:Y_):Nu (Acu nC nR nB qC qR qB) K w1 wn ln wr li x word=br (word.toList==sPiece.toList) none (br (word.toList==sWorth.toList) none (lV nC nR nB K ln li x (w_ wr w1 wn) (fun l k=>br (word.toList==sCake.toList) none (br (word.toList==sValues.toList) none (br (word.toList==sGive.toList) none (br (word.toList==sRent.toList) none (br (word.toList==sRooms.toList) none (br (word.toList==sPrices.toList) none (br (word.toList==sBalances.toList) none (br (word.toList==sPay.toList) none (br (word.toList==sClaims.toList) none (k false x)))))))))))):=k_
end
end Go.Proofs.YtnljjjghpgdmoaaGreatDoor

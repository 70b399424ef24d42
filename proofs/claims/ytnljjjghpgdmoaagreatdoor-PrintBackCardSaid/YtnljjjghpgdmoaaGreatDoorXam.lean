import Derived.Test.YtnljjjghpgdmoaaGreatDoorXal
import Derived.Shelf.Sort.Plain
import Derived.Shelf.Slices.In.SortNone
import Derived.Sort.OwnSortedInts
import Derived.WalkKit
import Derived.BigCall
import Derived.Deep.QuietTactic
set_option linter.all false
namespace Go.Proofs.YtnljjjghpgdmoaaGreatDoor
open Go.Ev
set_option maxRecDepth 100000
def Rg2(t:Row)(m:Nat):Prop:=∀i,i<m->(Rt.iR (t.I i 0)&&Rt.iR (t.I i 1))=true
instance(t:Row)(m:Nat):Decidable (Rg2 t m):=by unfold Rg2;infer_instance
def SqP(r:Row)(n:Nat):Prop:=∀i,i<n->(r.R i 0).n<=1000000∧Rg2 (r.R i 0) (r.R i 0).n
instance(r:Row)(n:Nat):Decidable (SqP r n):=by unfold SqP;infer_instance
def VJ(t:Row):Bool:=Ap (fun i=>Rt.chkE (t.I i 0) (t.I i 1) !=0) t.n 0
def zC:Ed:={τ:=[.v (.sl 0),.v (.int .i64)]++pu 4++[.v (.sl 1)]++pu 2++[.v (.sl 0),.v (.int .i64),.v (.int .i64)]++pu 3++[.v (.sl 1),.v (.int .i64),.v (.int .i64)]++pu 16,saved:=[[]],mem:=[.row [.slice [.int .i64,.int .i64]] false,.row [.int .i64,.int .i64] false]}
structure A_l5s where
 n:Nat
 k:Int
 m:Nat
 n_2:Nat
 lo:Int
 jo:Int
 m_2:Nat
 len:Int
 j:Int
 r:Row
 t:Row
def kG(its:List It):Option A_l5s:=match its with|[.n n,.i k,.n m,.n n_2,.i lo,.i jo,.n m_2,.i len,.i j,.r r,.r t]=>some ⟨n,k,m,n_2,lo,jo,m_2,len,j,r,t⟩|_=>none
def dW(x:A_l5s):Bool:=x.j=0∧x.len=x.m∧x.n_2=x.n∧x.m_2=x.m∧x.m<=1000000∧Rg2 x.t x.m
def c_l5s_iff{x:A_l5s}:=@BC _ dW _ _ rfl x
def l5s:ScanL A_l5s:=⟨33,5,[0,1,6,9,10,11,15,16,17],[0,1,4,6,9,10,11],zC,kG,fun x j=>[.n x.n,.i x.k,.n x.m,.n x.n,.i x.lo,.i x.jo,.n x.m,.i (x.m:Int),.i (j:Int),.r x.r,.r x.t],fun x=>x.m,dW,fun x j=>Rt.chkE (x.t.I j 0) (x.t.I j 1) !=0,fun x j K=>K .ret ⟨[S_ 0 0 x.n,i64 x.k]++us 2++[.bool false]++us 1++[S_ 1 0 x.m]++us 2++[S_ 0 0 x.n,i64 x.lo,i64 x.jo]++us 22,[[]],[some (.row [.slice [.int .i64,.int .i64]] false x.r),some (.row [.int .i64,.int .i64] false x.t)]⟩,fun x K=>K (.exit 2) ⟨[S_ 0 0 x.n,i64 x.k]++us 4++[S_ 1 0 x.m]++us 2++[S_ 0 0 x.n,i64 x.lo,i64 x.jo]++us 22,[[]],[some (.row [.slice [.int .i64,.int .i64]] false x.r),some (.row [.int .i64,.int .i64] false x.t)]⟩⟩
def Aa9:Ed:={τ:=[.v (.sl 0),.v (.int .i64)]++pu 7++[.v (.sl 0),.v (.int .i64),.v (.int .i64)]++pu 22,saved:=[[]],mem:=[.row [.slice [.int .i64,.int .i64]] false]}
structure A_l2s where
 n:Nat
 k:Int
 n_2:Nat
 len:Int
 j:Int
 r:Row
def eH(its:List It):Option A_l2s:=match its with|[.n n,.i k,.n n_2,.i len,.i j,.r r]=>some ⟨n,k,n_2,len,j,r⟩|_=>none
def iP(x:A_l2s):Bool:=x.j=0∧x.len=x.n∧x.n_2=x.n∧x.n<=1000000∧SqP x.r x.n
def c_l2s_iff{x:A_l2s}:=@BC _ iP _ _ rfl x
def l2s:ScanL A_l2s:=⟨33,2,[0,1,9,10,11],[0,1,4],Aa9,eH,fun x j=>[.n x.n,.i x.k,.n x.n,.i (x.n:Int),.i (j:Int),.r x.r],fun x=>x.n,iP,fun x j=>VJ (x.r.R j 0)||((x.r.R j 0).n:Int) !=x.k,fun x j K=>K .ret ⟨[S_ 0 0 x.n,i64 x.k]++us 2++[.bool false]++us 29,[[]],[some (.row [.slice [.int .i64,.int .i64]] false x.r)]⟩,fun x K=>K (.exit 0) ⟨[S_ 0 0 x.n,i64 x.k]++us 32,[[]],[some (.row [.slice [.int .i64,.int .i64]] false x.r)]⟩⟩
noncomputable def Csq:Cx:=AU Tryz.prog fns [(79,Rt.Fchk)] [l5s.C,l2s.C]
theorem zI(R:St->OD)(K:X->St->OD)(q n:Nat)(k:Int)(m n_2:Nat)(lo jo:Int)(m_2:Nat)(len j:Int)(r t:Row):Ar Csq 33 5 q (bst zC [.n n,.i k,.n m,.n n_2,.i lo,.i jo,.n m_2,.i len,.i j,.r r,.r t]) (BI [0,1,6,9,10,11,15,16,17] (some [0,1,4,6,9,10,11]) R K)=br (j<len) (br (0<=j&&j<(m_2:Int)) (br (Rt.iR (t.I (0+j.toNat) 0)&&Rt.iR (t.I (0+j.toNat) 1)) (br (Rt.chkE (t.I (0+j.toNat) 0) (t.I (0+j.toNat) 1) !=0) (K .ret ⟨[S_ 0 0 n,i64 k]++us 2++[.bool false]++us 1++[S_ 1 0 m]++us 2++[S_ 0 0 n_2,i64 lo,i64 jo]++us 22,[[]],[some (.row [.slice [.int .i64,.int .i64]] false r),some (.row [.int .i64,.int .i64] false t)]⟩) (R ⟨[S_ 0 0 n,i64 k]++us 4++[S_ 1 0 m]++us 2++[S_ 0 0 n_2,i64 lo,i64 jo]++us 3++[S_ 1 0 m_2,i64 len,i64 (IntKind.i64.wrap (j+1))]++us 16,[[]],[some (.row [.slice [.int .i64,.int .i64]] false r),some (.row [.int .i64,.int .i64] false t)]⟩)) none) none) (K (.exit 2) ⟨[S_ 0 0 n,i64 k]++us 4++[S_ 1 0 m]++us 2++[S_ 0 0 n_2,i64 lo,i64 jo]++us 22,[[]],[some (.row [.slice [.int .i64,.int .i64]] false r),some (.row [.int .i64,.int .i64] false t)]⟩):=by kernel_rfl
theorem Ab2(R:St->OD)(K:X->St->OD)(q n:Nat)(k:Int)(n_2:Nat)(len j:Int)(r:Row):Ar Csq 33 2 q (bst Aa9 [.n n,.i k,.n n_2,.i len,.i j,.r r]) (BI [0,1,9,10,11] (some [0,1,4]) R K)=br (j<len) (br (0<=j&&j<(n_2:Int)) (br (dW (⟨n,k,(r.R (0+j.toNat) 0).n,n_2,len,j,(r.R (0+j.toNat) 0).n,(↑(r.R (0+j.toNat) 0).n:Int),0,r,r.R (0+j.toNat) 0⟩:A_l5s)) (br (Ap (fun j_1=>Rt.chkE ((r.R (0+j.toNat) 0).I j_1 0) ((r.R (0+j.toNat) 0).I j_1 1) !=0) (r.R (0+j.toNat) 0).n 0) (K .ret ⟨[S_ 0 0 n,i64 k]++us 2++[.bool false]++us 29,[[]],[some (.row [.slice [.int .i64,.int .i64]] false r)]⟩) (br ((↑(r.R (0+j.toNat) 0).n:Int) !=k) (K .ret ⟨[S_ 0 0 n,i64 k]++us 2++[.bool false]++us 29,[[]],[some (.row [.slice [.int .i64,.int .i64]] false r)]⟩) (R ⟨[S_ 0 0 n,i64 k]++us 7++[S_ 0 0 n,i64 len,i64 (IntKind.i64.wrap (j+1))]++us 22,[[]],[some (.row [.slice [.int .i64,.int .i64]] false r)]⟩))) none) none) (K (.exit 0) ⟨[S_ 0 0 n,i64 k]++us 32,[[]],[some (.row [.slice [.int .i64,.int .i64]] false r)]⟩):=by kernel_rfl
theorem usq(r:Row)(k:Int):BZ Csq 6 33 [.slice [.slice [.int .i64,.int .i64]] r,.v (i64 k)]=br (iP (⟨r.n,k,r.n,(r.n:Int),0,r⟩:A_l2s)) (br (Ap (fun j=>VJ (r.R j 0)||(↑(r.R j 0).n:Int) !=k) r.n 0) (some [.v (.bool false)]) (some [.v (.bool ((r.n:Int)==k))])) (none):=by kernel_rfl
theorem Ae4:Ai Csq l5s.C:=l5s.ok (by kernel_rfl)
 (fun its x h hc=>by
  replace h:kG its=some x:=h;unfold kG at h;split at h
  ·cases h;obtain⟨h1,h2,h3,h4,h5,h6⟩:=c_l5s_iff.1 hc;dsimp only at h1 h2 h3 h4;subst h1 h2 h3 h4;rfl
  ·cases h)
 (fun x hc=>by have:=c_l5s_iff.1 hc;show x.m<18446744073709551616;omega)
 (fun q ⟨n,k,m,n_2,lo,jo,m_2,len0,j0,r,t⟩ j hc hi R K=>by
  obtain⟨h1,h2,h3,h4,h5,h6⟩:=c_l5s_iff.1 hc;dsimp only at*
  replace hi:j<m:=hi;refine(zI R K q n k m n lo jo m ((m:Int)) ((j:Int)) r t).trans ?_;have k1:=h6 j hi;rw[A9,AE j,gd j m hi,Fe j m hi,FH (by omega),k1];rfl)
 (fun q ⟨n,k,m,n_2,lo,jo,m_2,len0,j0,r,t⟩ hc R K=>by
  obtain⟨h1,h2,h3,h4,h5,h6⟩:=c_l5s_iff.1 hc;dsimp only at*
  refine(zI R K q n k m n lo jo m ((m:Int)) ((m:Int)) r t).trans ?_;rw[F8 m];rfl)
theorem Agk:Ai Csq l2s.C:=l2s.ok (by kernel_rfl)
 (fun its x h hc=>by
  replace h:eH its=some x:=h;unfold eH at h;split at h
  ·cases h;obtain⟨h1,h2,h3,h4,h5⟩:=c_l2s_iff.1 hc;dsimp only at h1 h2 h3;subst h1 h2 h3;rfl
  ·cases h)
 (fun x hc=>by have:=c_l2s_iff.1 hc;show x.n<18446744073709551616;omega)
 (fun q ⟨n,k,n_2,len0,j0,r⟩ j hc hi R K=>by
  obtain⟨h1,h2,h3,h4,h5⟩:=c_l2s_iff.1 hc;dsimp only at*
  replace hi:j<n:=hi;refine(Ab2 R K q n k n ((n:Int)) ((j:Int)) r).trans ?_;have k1:=h5 j hi;rw[A9,AE j,gd j n hi,Fe j n hi,FH (by omega),Aa,Aa];refine(congrArg (fun c=>br c _ _) (c_l5s_iff.2 ⟨rfl,rfl,rfl,rfl,k1.1,k1.2⟩)).trans ?_;rw[Aa];exact(La _ _ _ _).symm)
 (fun q ⟨n,k,n_2,len0,j0,r⟩ hc R K=>by
  obtain⟨h1,h2,h3,h4,h5⟩:=c_l2s_iff.1 hc;dsimp only at*
  refine(Ab2 R K q n k n ((n:Int)) ((n:Int)) r).trans ?_;rw[F8 n];rfl)
theorem Agx:Bi Csq:=Aq enter mixed (fun p h=>by
 simp only[A8,A7,or_false]at h;rcases h with rfl;exact Rt.den_chk) (fun l h=>by
 simp only[A8,A7,or_false]at h;rcases h with rfl|rfl
 ·exact Ae4
 ·exact Agk)
def wP(r:Row)(k:Int):Bool:= !(Ap (fun j=>VJ (r.R j 0)||((r.R j 0).n:Int) !=k) r.n 0)&&((r.n:Int)==k)
def sqC(r:Row)(_:Int):Bool:=r.n<=1000000∧SqP r r.n
def FSq(c b:Row->Int->Bool):FD
 |[.slice [.slice [.int .i64,.int .i64]] r,.v (.int .i64 n)]=>some (c r n,[.v (.bool (b r n))])
 |_=>none
theorem den_sq:Den Tryz.prog 33 (FSq sqC wP):=Ag Agx fun ds rs h=>by
 unfold FSq at h;split at h
 ·rename_i r k;simp only[A5,A6]at h;obtain⟨h0,rfl⟩:=h;have h0:=AD h0;refine(usq r k).trans ?_;rw[c_l2s_iff.2 ⟨rfl,rfl,rfl,h0⟩,Aa];unfold wP;show br (Ap (fun j=>VJ (r.R j 0)||((r.R j 0).n:Int) !=k) r.n 0) _ _=_;cases Ap (fun j=>VJ (r.R j 0)||((r.R j 0).n:Int) !=k) r.n 0<;>rfl
 ·cases h
def Ac7(v:Int):Bool:=decide (v<0)||decide (v>1000000)
def xZ:Ed:={τ:=[.v (.sl 0),.v (.c (.func (.func 128) #[] #[]))]++pu 5++[.v (.int .i64),.v (.int .i64)]++pu 10,saved:=[[.v (.sl 0),.v (.c (.func (.func 128) #[] #[]))]++pu 2++[.v (.c (.bool false)),.v (.sl 0),.v (.c (.func (.func 128) #[] #[]))]++pu 2,[]],mem:=[.row [.int .i64] false]}
structure A_la2 where
 n:Nat
 len:Int
 j:Int
 n_2:Nat
 n_3:Nat
 r:Row
def ZU(its:List It):Option A_la2:=match its with|[.n n,.i len,.i j,.n n_2,.n n_3,.r r]=>some ⟨n,len,j,n_2,n_3,r⟩|_=>none
def mQ(x:A_la2):Bool:=x.j=0∧x.len=x.n∧x.n_2=x.n∧x.n_3=x.n∧x.n<=1000000
def c_la2_iff{x:A_la2}:=@BC _ mQ _ _ rfl x
def la2:ScanL A_la2:=⟨126,2,[0,1,7,8],[4],xZ,ZU,fun x j=>[.n x.n,.i (x.n:Int),.i (j:Int),.n x.n,.n x.n,.r x.r],fun x=>x.n,mQ,fun x j=>Ac7 (x.r.I j 0),fun x j K=>K .ret ⟨us 4++[i64 ((j:Int))]++us 14,[[S_ 0 0 x.n,.func (.func 128) #[] #[]]++us 2++[.bool false,S_ 0 0 x.n,.func (.func 128) #[] #[]]++us 2,[]],[some (.row [.int .i64] false x.r)]⟩,fun x K=>K (.exit 0) ⟨us 19,[[S_ 0 0 x.n,.func (.func 128) #[] #[]]++us 2++[.bool false,S_ 0 0 x.n,.func (.func 128) #[] #[]]++us 2,[]],[some (.row [.int .i64] false x.r)]⟩⟩
noncomputable def Ca2:Cx:=AU Tryz.prog fns [] [la2.C]
theorem xE(R:St->OD)(K:X->St->OD)(q n:Nat)(len j:Int)(n_2 n_3:Nat)(r:Row):Ar Ca2 126 2 q (bst xZ [.n n,.i len,.i j,.n n_2,.n n_3,.r r]) (BI [0,1,7,8] (some [4]) R K)=br (j<len) (br (0<=j&&j<(n:Int)) (br (r.I (0+j.toNat) 0<0) (K .ret ⟨us 4++[i64 j]++us 14,[[S_ 0 0 n_2,.func (.func 128) #[] #[]]++us 2++[.bool false,S_ 0 0 n_3,.func (.func 128) #[] #[]]++us 2,[]],[some (.row [.int .i64] false r)]⟩) (br (r.I (0+j.toNat) 0>1000000) (K .ret ⟨us 4++[i64 j]++us 14,[[S_ 0 0 n_2,.func (.func 128) #[] #[]]++us 2++[.bool false,S_ 0 0 n_3,.func (.func 128) #[] #[]]++us 2,[]],[some (.row [.int .i64] false r)]⟩) (R ⟨[S_ 0 0 n,.func (.func 128) #[] #[]]++us 5++[i64 len,i64 (IntKind.i64.wrap (j+1))]++us 10,[[S_ 0 0 n_2,.func (.func 128) #[] #[]]++us 2++[.bool false,S_ 0 0 n_3,.func (.func 128) #[] #[]]++us 2,[]],[some (.row [.int .i64] false r)]⟩))) none) (K (.exit 0) ⟨us 19,[[S_ 0 0 n_2,.func (.func 128) #[] #[]]++us 2++[.bool false,S_ 0 0 n_3,.func (.func 128) #[] #[]]++us 2,[]],[some (.row [.int .i64] false r)]⟩):=by kernel_rfl
theorem ua2(r:Row):BZ Ca2 6 83 [.slice FW r,.v (.func (.func 128) #[] #[])]=br (mQ (⟨r.n,(r.n:Int),0,r.n,r.n,r⟩:A_la2)) (br (Ap (fun j=>Ac7 (r.I j 0)) r.n 0) (some [.v (.bool ((↑(FU (la2.bad (⟨r.n,(r.n:Int),0,r.n,r.n,r⟩:A_la2)) (la2.len (⟨r.n,(r.n:Int),0,r.n,r.n,r⟩:A_la2)) 0):Int)>=0))]) (some [.v (.bool (-1>=0))])) (none):=by kernel_rfl
theorem Afl:Ai Ca2 la2.C:=la2.ok (by kernel_rfl)
 (fun its x h hc=>by
  replace h:ZU its=some x:=h;unfold ZU at h;split at h
  ·cases h;obtain⟨h1,h2,h3,h4,h5⟩:=c_la2_iff.1 hc;dsimp only at h1 h2 h3 h4;subst h1 h2 h3 h4;rfl
  ·cases h)
 (fun x hc=>by have:=c_la2_iff.1 hc;show x.n<18446744073709551616;omega)
 (fun q ⟨n,len0,j0,n_2,n_3,r⟩ j hc hi R K=>by
  obtain⟨h1,h2,h3,h4,h5⟩:=c_la2_iff.1 hc;dsimp only at*
  replace hi:j<n:=hi;refine(xE R K q n ((n:Int)) ((j:Int)) n n r).trans ?_;rw[A9,AE j,gd j n hi,Fe j n hi,FH (by omega),Aa,Aa];exact(La _ _ _ _).symm)
 (fun q ⟨n,len0,j0,n_2,n_3,r⟩ hc R K=>by
  obtain⟨h1,h2,h3,h4,h5⟩:=c_la2_iff.1 hc;dsimp only at*
  refine(xE R K q n ((n:Int)) ((n:Int)) n n r).trans ?_;rw[F8 n];rfl)
theorem Af4:Bi Ca2:=Aq enter mixed (fun p h=>by cases h) (fun l h=>by
 simp only[A8,A7,or_false]at h;rcases h with rfl;exact Afl)
def J9(r:Row):Bool:=Ap (fun j=>Ac7 (r.I j 0)) r.n 0
def Ag0:FD
 |[.slice [.int .i64] r,.v (.func (.func 128) ⟨[]⟩ ⟨[]⟩)]=>some (r.n<=1000000,[.v (.bool (J9 r))])
 |_=>none
theorem vO:Den Tryz.prog 83 Ag0:=Ag Af4 fun ds rs h=>by
 unfold Ag0 at h;split at h
 ·rename_i r;simp only[A5,A6]at h;obtain⟨h0,rfl⟩:=h;have h0:=AD h0;refine(ua2 r).trans ?_;rw[c_la2_iff.2 ⟨rfl,rfl,rfl,rfl,h0⟩,Aa];show br (J9 r) _ _=some [D.v (.bool (J9 r))];cases J9 r
  ·rfl
  ·rw[Aa,A4 (by omega)]
 ·cases h
def VaP(r:Row)(n:Nat):Prop:=∀i,i<n->(r.R i 0).n<=1000000
instance(r:Row)(n:Nat):Decidable (VaP r n):=by unfold VaP;infer_instance
def jK(r:Row)(n j:Nat):Bool:=((r.R j 0).n:Int) !=(n:Int)||J9 (r.R j 0)
def Aav:Ed:={τ:=[.v (.sl 0)]++pu 2++[.v (.c (.func (.func 128) #[] #[]))]++pu 8++[.v (.sl 0),.v (.int .i64),.v (.int .i64)]++pu 14,saved:=[[]],mem:=[.row [.slice [.int .i64]] false]}
structure A_la7 where
 n:Nat
 n_2:Nat
 len:Int
 j:Int
 r:Row
def jT(its:List It):Option A_la7:=match its with|[.n n,.n n_2,.i len,.i j,.r r]=>some ⟨n,n_2,len,j,r⟩|_=>none
def lC(x:A_la7):Bool:=x.j=0∧x.len=x.n∧x.n_2=x.n∧x.n<=1000000∧VaP x.r x.n
def c_la7_iff{x:A_la7}:=@BC _ lC _ _ rfl x
def la7:ScanL A_la7:=⟨85,7,[0,3,12,13,14],[2],Aav,jT,fun x j=>[.n x.n,.n x.n,.i (x.n:Int),.i (j:Int),.r x.r],fun x=>x.n,lC,fun x j=>jK x.r x.n j,fun x j K=>K .ret ⟨us 2++[i64 8]++us 26,[[]],[]⟩,fun x K=>K (.exit 0) ⟨us 29,[[]],[]⟩⟩
noncomputable def Ca7:Cx:=AU Tryz.prog fns [(83,Ag0)] [la7.C]
theorem xW(R:St->OD)(K:X->St->OD)(q n n_2:Nat)(len j:Int)(r:Row):Ar Ca7 85 7 q (bst Aav [.n n,.n n_2,.i len,.i j,.r r]) (BI [0,3,12,13,14] (some [2]) R K)=br (j<len) (br (0<=j&&j<(n_2:Int)) (br ((↑(r.R (0+j.toNat) 0).n:Int) !=(n:Int)) (K .ret ⟨us 2++[i64 8]++us 26,[[]],[]⟩) (br ((w_ (r.R (0+j.toNat) 0) 0 (r.R (0+j.toNat) 0).n).n<=1000000) (br (J9 (w_ (r.R (0+j.toNat) 0) 0 (r.R (0+j.toNat) 0).n)) (K .ret ⟨us 2++[i64 8]++us 26,[[]],[]⟩) (R ⟨[S_ 0 0 n]++us 2++[.func (.func 128) #[] #[]]++us 8++[S_ 0 0 n_2,i64 len,i64 (IntKind.i64.wrap (j+1))]++us 14,[[]],[some (.row [.slice [.int .i64]] false r)]⟩)) none)) none) (K (.exit 0) ⟨us 29,[[]],[]⟩):=by kernel_rfl
theorem ua7(r:Row):BZ Ca7 6 85 [.slice Ls r]=br ((r.n:Int)>6) (some [.v (i64 4)]) (br ((r.n:Int)==0) (some [.v (i64 8)]) (br (lC (⟨r.n,r.n,(r.n:Int),0,r⟩:A_la7)) (br (Ap (fun j=>jK r r.n j) r.n 0) (some [.v (i64 8)]) (some [.v (i64 0)])) none)):=by kernel_rfl
theorem Ag4:Ai Ca7 la7.C:=la7.ok (by kernel_rfl)
 (fun its x h hc=>by
  replace h:jT its=some x:=h;unfold jT at h;split at h
  ·cases h;obtain⟨h1,h2,h3,h4,h5⟩:=c_la7_iff.1 hc;dsimp only at h1 h2 h3;subst h1 h2 h3;rfl
  ·cases h)
 (fun x hc=>by have:=c_la7_iff.1 hc;show x.n<18446744073709551616;omega)
 (fun q ⟨n,n_2,len0,j0,r⟩ j hc hi R K=>by
  obtain⟨h1,h2,h3,h4,h5⟩:=c_la7_iff.1 hc;dsimp only at*
  replace hi:j<n:=hi;refine(xW R K q n n ((n:Int)) ((j:Int)) r).trans ?_;have k1:=h5 j hi;rw[A9,AE j,gd j n hi,Fe j n hi,FH (by omega),show decide ((w_ (r.R j 0) 0 (r.R j 0).n).n<=1000000)=true from A4 (by rw[wn_];exact k1),Aa,Aa,Aa];exact(La _ _ _ _).symm)
 (fun q ⟨n,n_2,len0,j0,r⟩ hc R K=>by
  obtain⟨h1,h2,h3,h4,h5⟩:=c_la7_iff.1 hc;dsimp only at*
  refine(xW R K q n n ((n:Int)) ((n:Int)) r).trans ?_;rw[F8 n];rfl)
theorem Afv:Bi Ca7:=Aq enter mixed (fun p h=>by
 simp only[A8,A7,or_false]at h;rcases h with rfl;exact vO) (fun l h=>by
 simp only[A8,A7,or_false]at h;rcases h with rfl;exact Ag4)
def Jl(r:Row):Int:=bif (r.n:Int)>6 then 4 else bif (r.n:Int)==0 then 8 else bif Ap (jK r r.n) r.n 0 then 8 else 0
def N7(r:Row):Bool:=r.n<=1000000∧VaP r r.n
def qJ:FD
 |[.slice [.slice [.int .i64]] r]=>some (N7 r,[.v (i64 (Jl r))])
 |_=>none
theorem X3:Den Tryz.prog 85 qJ:=Ag Afv fun ds rs h=>by
 unfold qJ at h;split at h
 ·rename_i r;simp only[A5,A6]at h;obtain⟨h0,rfl⟩:=h;have h0:=AD h0;refine(ua7 r).trans ?_;rw[c_la7_iff.2 ⟨rfl,rfl,rfl,h0⟩,Aa];exact DN fun _=>DN fun _=>DN fun _=>rfl
 ·cases h
noncomputable def Cro:Cx:=AU Tryz.prog fns [(85,qJ)] []
theorem Abj:Bi Cro:=Aq enter mixed (fun p h=>by
 simp only[A8,A7,or_false]at h;rcases h with rfl;exact X3) (fun l h=>by cases h)
theorem uro(r:Row)(n:Int):BZ Cro 6 37 [.agg [.slice Ls r,.v (i64 n)]]=br (N7 (w_ r 0 r.n)) (br (Jl (w_ r 0 r.n) !=0) (some [.v (i64 (Jl (w_ r 0 r.n)))]) (br (n<0) (some [.v (i64 8)]) (br (n>10000000) (some [.v (i64 8)]) (some [.v (i64 0)])))) (none):=by kernel_rfl
def PH(r:Row)(n:Int):Int:=bif Jl r !=0 then Jl r else bif n<0 then 8 else bif n>10000000 then 8 else 0
def Uo(r:Row)(_:Int):Bool:=N7 r
def FRc(c:Row->Int->Bool)(b:Row->Int->Int):FD
 |[.agg [.slice [.slice [.int .i64]] r,.v (.int .i64 n)]]=>some (c r n,[.v (i64 (b r n))])
 |_=>none
theorem den_roo:Den Tryz.prog 37 (FRc Uo PH):=Ag Abj fun ds rs h=>by
 unfold FRc at h;split at h
 ·rename_i r n;simp only[A5,A6]at h;obtain⟨h0,rfl⟩:=h;refine(uro r n).trans ?_;refine JD (show N7 (w_ r 0 r.n)=true from h0) (DN fun _=>DN fun _=>DN fun _=>rfl)
 ·cases h
def FVl(c:Row->Row->Bool)(o e:Row->Row->Int):FD
 |[.slice [.slice [.int .i64]] r,.slice [.int .i64] a]=>some (c r a,[.v (i64 (o r a)),.v (i64 (e r a))])
 |_=>none
def TF(m v:Int):Bool:=decide (v< -10000000*m)||decide (v>10000000*m)
def zM:Ed:={τ:=pu 2++[.v (.c (.pointer (some ⟨0,0,some 0⟩))),.v (.c (.pointer (some ⟨1,0,some 0⟩)))]++pu 4++[.v (.int .i64)]++pu 36++[.v (.sl 2),.v (.int .i64),.v (.int .i64)]++pu 26,saved:=[[]],mem:=[.box [.v (.sl 3),.v (.int .i64)],.box [.v (.sl 4),.v (.sl 2),.v (.int .i64)],.row [.int .i64] false,.row [.slice [.int .i64]] false,.row [.int .i64] false]}
structure A_lrv where
 sm:Int
 n:Nat
 len:Int
 j:Int
 rn:Nat
 k:Int
 pn:Nat
 n_2:Nat
 m:Int
 qr:Row
 r:Row
 p:Row
def lS(its:List It):Option A_lrv:=match its with|[.i sm,.n n,.i len,.i j,.n rn,.i k,.n pn,.n n_2,.i m,.r qr,.r r,.r p]=>some ⟨sm,n,len,j,rn,k,pn,n_2,m,qr,r,p⟩|_=>none
def jP(x:A_lrv):Bool:=x.j=0∧x.len=x.n∧x.n_2=x.n∧x.n<=1000000∧1<=x.m∧x.m<=60∧x.sm=0
def c_lrv_iff{x:A_lrv}:=@BC _ jP _ _ rfl x
def lrv:RunL A_lrv (Int):=⟨38,11,[2,3,8,45,46,47],[2,3,4,8],zM,lS,fun x j a=>[.i a,.n x.n,.i (x.n:Int),.i (j:Int),.n x.rn,.i x.k,.n x.pn,.n x.n,.i x.m,.r x.qr,.r x.r,.r x.p],fun x=>x.n,jP,fun x=>x.sm,fun x j a=>TF x.m (x.qr.I j 0),fun x j a=>a+x.qr.I j 0,fun x j a K=>K .ret ⟨us 2++[.pointer (some ⟨0,0,some 0⟩),.pointer (some ⟨1,0,some 0⟩),i64 8]++us 3++[i64 ((a))]++us 65,[[]],[some (.box [S_ 2 0 x.rn,i64 x.k]),some (.box [S_ 3 0 x.pn,S_ 4 0 x.n,i64 x.m]),some (.row [.slice [.int .i64]] false x.r),some (.row [.int .i64] false x.p),some (.row [.int .i64] false x.qr)]⟩,fun x a K=>K (.exit 0) ⟨us 2++[.pointer (some ⟨0,0,some 0⟩),.pointer (some ⟨1,0,some 0⟩)]++us 4++[i64 ((a))]++us 65,[[]],[some (.box [S_ 2 0 x.rn,i64 x.k]),some (.box [S_ 3 0 x.pn,S_ 4 0 x.n,i64 x.m]),some (.row [.slice [.int .i64]] false x.r),some (.row [.int .i64] false x.p),some (.row [.int .i64] false x.qr)]⟩⟩
noncomputable def Crv(c:Row->Row->Bool)(o e:Row->Row->Int):Cx:=AU Tryz.prog fns [(37,FRc Uo PH),(86,FVl c o e)] [lrv.C]
theorem zY(c:Row->Row->Bool)(o e:Row->Row->Int)(R:St->OD)(K:X->St->OD)(q:Nat)(sm:Int)(n:Nat)(len j:Int)(rn:Nat)(k:Int)(pn n_2:Nat)(m:Int)(qr r p:Row):Ar (Crv c o e) 38 11 q (bst zM [.i sm,.n n,.i len,.i j,.n rn,.i k,.n pn,.n n_2,.i m,.r qr,.r r,.r p]) (BI [2,3,8,45,46,47] (some [2,3,4,8]) R K)=br (j<len) (br (0<=j&&j<(n:Int)) (br (qr.I (0+j.toNat) 0<IntKind.i64.wrap (-10000000*m)) (K .ret ⟨us 2++[.pointer (some ⟨0,0,some 0⟩),.pointer (some ⟨1,0,some 0⟩),i64 8]++us 3++[i64 sm]++us 65,[[]],[some (.box [S_ 2 0 rn,i64 k]),some (.box [S_ 3 0 pn,S_ 4 0 n_2,i64 m]),some (.row [.slice [.int .i64]] false r),some (.row [.int .i64] false p),some (.row [.int .i64] false qr)]⟩) (br (qr.I (0+j.toNat) 0>IntKind.i64.wrap (10000000*m)) (K .ret ⟨us 2++[.pointer (some ⟨0,0,some 0⟩),.pointer (some ⟨1,0,some 0⟩),i64 8]++us 3++[i64 sm]++us 65,[[]],[some (.box [S_ 2 0 rn,i64 k]),some (.box [S_ 3 0 pn,S_ 4 0 n_2,i64 m]),some (.row [.slice [.int .i64]] false r),some (.row [.int .i64] false p),some (.row [.int .i64] false qr)]⟩) (R ⟨us 2++[.pointer (some ⟨0,0,some 0⟩),.pointer (some ⟨1,0,some 0⟩)]++us 4++[i64 (IntKind.i64.wrap (sm+qr.I (0+j.toNat) 0))]++us 36++[S_ 2 0 n,i64 len,i64 (IntKind.i64.wrap (j+1))]++us 26,[[]],[some (.box [S_ 3 0 rn,i64 k]),some (.box [S_ 4 0 pn,S_ 2 0 n_2,i64 m]),some (.row [.int .i64] false qr),some (.row [.slice [.int .i64]] false r),some (.row [.int .i64] false p)]⟩))) none) (K (.exit 0) ⟨us 2++[.pointer (some ⟨0,0,some 0⟩),.pointer (some ⟨1,0,some 0⟩)]++us 4++[i64 sm]++us 65,[[]],[some (.box [S_ 2 0 rn,i64 k]),some (.box [S_ 3 0 pn,S_ 4 0 n_2,i64 m]),some (.row [.slice [.int .i64]] false r),some (.row [.int .i64] false p),some (.row [.int .i64] false qr)]⟩):=by kernel_rfl
theorem urv(c:Row->Row->Bool)(o e:Row->Row->Int)(r p qr:Row)(n m:Int):BZ (Crv c o e) 6 38 [.agg [.slice Ls r,.v (i64 n)],.agg [.slice FW p,.slice FW qr,.v (i64 m)]]=br (Uo (w_ r 0 r.n) n) (br (PH (w_ r 0 r.n) n !=0) (some [.v (i64 (PH (w_ r 0 r.n) n))]) (br (c (w_ r 0 r.n) (w_ p 0 p.n)) (br (e (w_ r 0 r.n) (w_ p 0 p.n) !=0) (some [.v (i64 (e (w_ r 0 r.n) (w_ p 0 p.n)))]) (br (m<1) (some [.v (i64 8)]) (br (m>60) (some [.v (i64 8)]) (br ((qr.n:Int) !=(r.n:Int)) (some [.v (i64 8)]) (br (jP (⟨0,qr.n,(qr.n:Int),0,r.n,n,p.n,qr.n,m,qr,r,p⟩:A_lrv)) (br ((CY (lrv.stop (⟨0,qr.n,(qr.n:Int),0,r.n,n,p.n,qr.n,m,qr,r,p⟩:A_lrv)) (lrv.nx (⟨0,qr.n,(qr.n:Int),0,r.n,n,p.n,qr.n,m,qr,r,p⟩:A_lrv)) (lrv.len (⟨0,qr.n,(qr.n:Int),0,r.n,n,p.n,qr.n,m,qr,r,p⟩:A_lrv)) 0 (lrv.ini (⟨0,qr.n,(qr.n:Int),0,r.n,n,p.n,qr.n,m,qr,r,p⟩:A_lrv))).1) (some [.v (i64 8)]) (br ((CY (lrv.stop (⟨0,qr.n,(qr.n:Int),0,r.n,n,p.n,qr.n,m,qr,r,p⟩:A_lrv)) (lrv.nx (⟨0,qr.n,(qr.n:Int),0,r.n,n,p.n,qr.n,m,qr,r,p⟩:A_lrv)) (lrv.len (⟨0,qr.n,(qr.n:Int),0,r.n,n,p.n,qr.n,m,qr,r,p⟩:A_lrv)) 0 (lrv.ini (⟨0,qr.n,(qr.n:Int),0,r.n,n,p.n,qr.n,m,qr,r,p⟩:A_lrv))).snd.2 !=IntKind.i64.wrap (n*m)) (some [.v (i64 8)]) (some [.v (i64 0)]))) none))))) none)) (none):=by kernel_rfl
theorem Ad0(c:Row->Row->Bool)(o e:Row->Row->Int):Ai (Crv c o e) lrv.C:=lrv.ok (fun x j a=> -600000000*(j:Int)<=a∧a<=600000000*(j:Int)) (by kernel_rfl)
 (fun its x h hc=>by
  replace h:lS its=some x:=h;unfold lS at h;split at h
  ·cases h;obtain⟨h1,h2,h3,h4,h5,h6,h7⟩:=c_lrv_iff.1 hc;dsimp only at h1 h2 h3;subst h1 h2 h3;rfl
  ·cases h)
 (fun x hc=>by have:=c_lrv_iff.1 hc;show x.n<18446744073709551616;omega)
 (fun x hc=>by
  have:=(c_lrv_iff.1 hc).2.2.2.2.2.2;show-600000000*((0:Nat):Int)<=x.sm∧x.sm<=600000000*((0:Nat):Int);omega)
 (fun x j a hc hi hI hs=>by
  have g:=c_lrv_iff.1 hc;replace hI: -600000000*(j:Int)<=a∧a<=600000000*(j:Int):=hI;replace hs:TF x.m (x.qr.I j 0)=false:=hs;unfold TF at hs;simp only[AI,decide_eq_false_iff_not]at hs;show-600000000*((j+1:Nat):Int)<=a+x.qr.I j 0∧a+x.qr.I j 0<=600000000*((j+1:Nat):Int);omega)
 (fun q ⟨sm0,n,len0,j0,rn,k,pn,n_2,m,qr,r,p⟩ j a hc hi hI R K=>by
  obtain⟨h1,h2,h3,h4,h5,h6,h7⟩:=c_lrv_iff.1 hc;dsimp only at*
  replace hi:j<n:=hi;refine(zY c o e R K q ((a)) n ((n:Int)) ((j:Int)) rn k pn n m qr r p).trans ?_;replace hI: -600000000*(j:Int)<=a∧a<=600000000*(j:Int):=hI;rw[A9,AE j,gd j n hi,Fe j n hi,FH (by omega),show IntKind.i64.wrap (-10000000*m)= -10000000*m from wrap64 (by omega) (by omega),show IntKind.i64.wrap (10000000*m)=10000000*m from wrap64 (by omega) (by omega),Aa,Aa];refine(La _ _ _ _).symm.trans ?_;show br (TF m (qr.I j 0)) _ _=br (TF m (qr.I j 0)) _ _;cases hb:TF m (qr.I j 0)
  ·unfold TF at hb;simp only[AI,decide_eq_false_iff_not]at hb;rw[Ac,Ac,show IntKind.i64.wrap (a+qr.I j 0)=a+qr.I j 0 from wrap64 (by omega) (by omega)];rfl
  ·rfl)
 (fun q ⟨sm0,n,len0,j0,rn,k,pn,n_2,m,qr,r,p⟩ a hc hI R K=>by
  obtain⟨h1,h2,h3,h4,h5,h6,h7⟩:=c_lrv_iff.1 hc;dsimp only at*
  refine(zY c o e R K q ((a)) n ((n:Int)) ((n:Int)) rn k pn n m qr r p).trans ?_;rw[F8 n];rfl)
theorem Ae8{c:Row->Row->Bool}{o e:Row->Row->Int}(hv:Den Tryz.prog 86 (FVl c o e)):Bi (Crv c o e):=Aq enter mixed (fun p h=>by
 simp only[A8,A7,or_false]at h;rcases h with rfl|rfl
 ·exact den_roo
 ·exact hv) (fun l h=>by
 simp only[A8,A7,or_false]at h;rcases h with rfl;exact Ad0 ..)
def Ahm(m:Int)(qr:Row):Bool×Nat×Int:=CY (fun j _=>TF m (qr.I j 0)) (fun j a=>a+qr.I j 0) qr.n 0 0
def YP(e:Row->Row->Int)(r:Row)(n:Int)(p qr:Row)(m:Int):Int:=bif PH r n !=0 then PH r n else bif e (Ad r) (Ad p) !=0 then e (Ad r) (Ad p)else bif m<1 then 8 else bif m>60 then 8 else bif (qr.n:Int) !=(r.n:Int)then 8 else bif (Ahm m qr).1 then 8 else bif (Ahm m qr).2.2 !=IntKind.i64.wrap (n*m)then 8 else 0
def YQ(c:Row->Row->Bool)(r:Row)(n:Int)(p qr:Row)(_:Int):Bool:=Uo r n&&c (Ad r) (Ad p)&&decide (qr.n<=1000000)
def FRv(c:Row->Int->Row->Row->Int->Bool)(b:Row->Int->Row->Row->Int->Int):FD
 |[.agg [.slice [.slice [.int .i64]] r,.v (.int .i64 n)],.agg [.slice [.int .i64] p,.slice [.int .i64] q,.v (.int .i64 m)]]=>some (c r n p q m,[.v (i64 (b r n p q m))])
 |_=>none
theorem uO{c:Row->Row->Bool}{o e:Row->Row->Int}(hv:Den Tryz.prog 86 (FVl c o e)):Den Tryz.prog 38 (FRv (YQ c) (YP e)):=Ag (Ae8 hv) fun ds rs h=>by
 unfold FRv at h;split at h
 ·rename_i r n p qr m;simp only[A5,A6]at h;obtain⟨h0,rfl⟩:=h;unfold YQ at h0;rw[A2,A2]at h0;obtain⟨⟨g1,g2⟩,g3⟩:=h0;have g3:=AD g3;refine(urv c o e r p qr n m).trans ?_;refine JD (show Uo (w_ r 0 r.n) n=true from g1) (DN fun h1=>JD (show c (w_ r 0 r.n) (w_ p 0 p.n)=true from g2) (DN fun h2=>DN fun h3=>DN fun h4=>DN fun h5=>?_));have k3:¬m<1:=AO h3;have k4:¬m>60:=AO h4;refine JD (c_lrv_iff.2 ⟨rfl,rfl,rfl,g3,by show 1<=m;omega,by show m<=60;omega,rfl⟩) ?_;exact DN fun h6=>DN fun h7=>rfl
 ·cases h
def AsP(r a:Row)(n:Nat):Prop:=n<=r.n∧∀i,i<n->0<=a.I i 0∧a.I i 0<((r.R i 0).n:Int)
instance(r a:Row)(n:Nat):Decidable (AsP r a n):=by unfold AsP;infer_instance
def yR:Ed:={τ:=[.v (.sl 0)]++pu 4++[.v (.int .i64)]++pu 2++[.v (.sl 1),.v (.int .i64),.v (.int .i64)]++pu 15,saved:=[[]],mem:=[.row [.slice [.int .i64]] false,.row [.int .i64] false]}
structure A_lva where
 rn:Nat
 sm:Int
 n:Nat
 len:Int
 j:Int
 r:Row
 a0:Row
def gW(its:List It):Option A_lva:=match its with|[.n rn,.i sm,.n n,.i len,.i j,.r r,.r a0]=>some ⟨rn,sm,n,len,j,r,a0⟩|_=>none
def mV(x:A_lva):Bool:=x.j=0∧x.len=x.n∧x.n<=1000000∧AsP x.r x.a0 x.n∧x.rn=x.r.n
def c_lva_iff{x:A_lva}:=@BC _ mV _ _ rfl x
def lva:FoldL A_lva (Int):=⟨130,3,[0,5,8,9,10],[4,5],yR,gW,fun x j a=>[.n x.rn,.i a,.n x.n,.i (x.n:Int),.i (j:Int),.r x.r,.r x.a0],fun x=>x.n,mV,fun x=>x.sm,fun x j a=>IntKind.i64.wrap (a+(x.r.R j 0).I (x.a0.I j 0).toNat 0),fun x a K=>K (.exit 0) ⟨us 5++[i64 ((a))]++us 20,[[]],[]⟩⟩
noncomputable def Cva:Cx:=AU Tryz.prog fns [] [lva.C]
theorem Aaj(R:St->OD)(K:X->St->OD)(q rn:Nat)(sm:Int)(n:Nat)(len j:Int)(r a0:Row):Ar Cva 130 3 q (bst yR [.n rn,.i sm,.n n,.i len,.i j,.r r,.r a0]) (BI [0,5,8,9,10] (some [4,5]) R K)=br (j<len) (br (0<=j&&j<(n:Int)) (br (0<=j&&j<(rn:Int)) (br (0<=a0.I (0+j.toNat) 0&&a0.I (0+j.toNat) 0<(↑(r.R (0+j.toNat) 0).n:Int)) (R ⟨[S_ 0 0 rn]++us 4++[i64 (IntKind.i64.wrap (sm+(r.R (0+j.toNat) 0).I (0+(a0.I (0+j.toNat) 0).toNat) 0))]++us 2++[S_ 1 0 n,i64 len,i64 (IntKind.i64.wrap (j+1))]++us 15,[[]],[some (.row [.slice [.int .i64]] false r),some (.row [.int .i64] false a0)]⟩) none) none) none) (K (.exit 0) ⟨us 5++[i64 sm]++us 20,[[]],[]⟩):=by kernel_rfl
theorem uva(r a:Row):BZ Cva 6 130 [.slice Ls r,.slice FW a]=br (mV (⟨r.n,0,a.n,(a.n:Int),0,r,a⟩:A_lva)) (some [.v (i64 (AP (fun j a_1=>IntKind.i64.wrap (a_1+(r.R j 0).I (a.I j 0).toNat 0)) a.n 0 0))]) (none):=by kernel_rfl
theorem Agq:Ai Cva lva.C:=lva.ok (fun x j a=>True) (by kernel_rfl)
 (fun its x h hc=>by
  replace h:gW its=some x:=h;unfold gW at h;split at h
  ·cases h;obtain⟨h1,h2,h3,h4,h5⟩:=c_lva_iff.1 hc;dsimp only at h1 h2;subst h1 h2;rfl
  ·cases h)
 (fun x hc=>by have:=c_lva_iff.1 hc;show x.n<18446744073709551616;omega)
 (fun x hc=>by
  trivial)
 (fun x j a hc hi hI=>by
  trivial)
 (fun q ⟨rn,sm0,n,len0,j0,r,a0⟩ j a hc hi hI R K=>by
  obtain⟨h1,h2,h3,h4,h5⟩:=c_lva_iff.1 hc;dsimp only at*
  replace hi:j<n:=hi;refine(Aaj R K q rn ((a)) n ((n:Int)) ((j:Int)) r a0).trans ?_;have k1:=h4.2 j hi;have k2:=h4.1;rw[A9,AE j,gd j n hi,Fe j n hi,FH (by omega),gd j rn (by omega),show(decide (0<=a0.I j 0)&&decide (a0.I j 0<((r.R j 0).n:Int)))=true by simp only[A2,A3];exact k1,AE];rfl)
 (fun q ⟨rn,sm0,n,len0,j0,r,a0⟩ a hc hI R K=>by
  obtain⟨h1,h2,h3,h4,h5⟩:=c_lva_iff.1 hc;dsimp only at*
  refine(Aaj R K q rn ((a)) n ((n:Int)) ((n:Int)) r a0).trans ?_;rw[F8 n];rfl)
theorem Abf:Bi Cva:=Aq enter mixed (fun p h=>by cases h) (fun l h=>by
 simp only[A8,A7,or_false]at h;rcases h with rfl;exact Agq)
def tZ(r a:Row):Int:=AP (fun j c=>IntKind.i64.wrap (c+(r.R j 0).I (a.I j 0).toNat 0)) a.n 0 0
def vaC(r a:Row):Bool:=a.n<=1000000∧AsP r a a.n
def FVa(c:Row->Row->Bool)(o:Row->Row->Int):FD
 |[.slice [.slice [.int .i64]] r,.slice [.int .i64] a]=>some (c r a,[.v (i64 (o r a))])
 |_=>none
theorem Ac3:Den Tryz.prog 130 (FVa vaC tZ):=Ag Abf fun ds rs h=>by
 unfold FVa at h;split at h
 ·rename_i r a;simp only[A5,A6]at h;obtain⟨h0,rfl⟩:=h;have h0:=AD h0;refine(uva r a).trans ?_;rw[c_lva_iff.2 ⟨rfl,rfl,h0.1,h0.2,rfl⟩,Aa];rfl
 ·cases h
def FAs(c b:Row->Int->Bool):FD
 |[.slice [.int .i64] a,.v (.int .i64 n)]=>some (c a n,[.v (.bool (b a n))])
 |_=>none
noncomputable def CVl(c b:Row->Int->Bool):Cx:=AU Tryz.prog fns [(85,qJ),(129,FAs c b),(130,FVa vaC tZ)] []
theorem uVl(c b:Row->Int->Bool)(r a:Row):BZ (CVl c b) 6 86 [.slice Ls r,.slice FW a]=br (N7 (w_ r 0 r.n)) (br (Jl (w_ r 0 r.n) !=0) (some [.v (i64 0),.v (i64 (Jl (w_ r 0 r.n)))]) (br (c (w_ a 0 a.n) (r.n:Int)) (br (!b (w_ a 0 a.n) (r.n:Int)) (some [.v (i64 0),.v (i64 8)]) (br (vaC (w_ r 0 r.n) (w_ a 0 a.n)) (some [.v (i64 (tZ (w_ r 0 r.n) (w_ a 0 a.n))),.v (i64 0)]) none)) none)) (none):=by kernel_rfl
theorem Aea{c:Row->Int->Bool}{b:Row->Int->Bool}(hv:Den Tryz.prog 129 (FAs c b)):Bi (CVl c b):=Aq enter mixed (fun p h=>by
 simp only[A8,A7,or_false]at h;rcases h with rfl|rfl|rfl
 ·exact X3
 ·exact hv
 ·exact Ac3) (fun l h=>by cases h)
def TR(b:Row->Int->Bool)(r a:Row):Int:=bif Jl r !=0 then Jl r else bif !b (Ad a) (r.n:Int)then 8 else 0
def Ah8(b:Row->Int->Bool)(r a:Row):Int:=bif Jl r !=0 then 0 else bif !b (Ad a) (r.n:Int)then 0 else tZ r a
def Vo(c:Row->Int->Bool)(r a:Row):Bool:=N7 r&&c (Ad a) (r.n:Int)
theorem QH{r:Row}(h:Jl r=0):1<=r.n∧r.n<=6∧∀j,j<r.n->(r.R j 0).n=r.n∧J9 (r.R j 0)=false:=by
 unfold Jl at h;cases h1:decide ((r.n:Int)>6)
 ·rw[h1]at h;cases h2:(r.n:Int)==0
  ·rw[h2]at h;cases h3:Ap (jK r r.n) r.n 0
   ·have:=AO h1;have h2':¬(r.n:Int)=0:=by simpa using h2
    refine⟨by omega,by omega,fun j hj=>?_⟩;have g:=anyF_false.1 h3 j (Nat.zero_le _) (by omega);unfold jK at g;rw[AI]at g;have g1:((r.R j 0).n:Int)=(r.n:Int):=by simpa using g.1
    exact⟨by omega,g.2⟩
   ·rw[h3]at h;exact absurd h (by simp)
  ·rw[h2]at h;exact absurd h (by simp)
 ·rw[h1]at h;exact absurd h (by simp)
theorem uY{c:Row->Int->Bool}{b:Row->Int->Bool}(hv:Den Tryz.prog 129 (FAs c b))(hb:∀(a:Row)(n:Nat),b a (n:Int)=true->a.n=n∧∀i,i<n->0<=a.I i 0∧a.I i 0<(n:Int)):
  Den Tryz.prog 86 (FVl (Vo c) (Ah8 b) (TR b)):=Ag (Aea hv) fun ds rs h=>by
 unfold FVl at h;split at h
 ·rename_i r a;simp only[A5,A6]at h;obtain⟨h0,rfl⟩:=h;unfold Vo at h0;rw[A2]at h0;obtain⟨g1,g2⟩:=h0;refine(uVl c b r a).trans ?_;refine JD (show N7 (w_ r 0 r.n)=true from g1) ?_;show br (Jl r !=0) (some [D.v (i64 0),D.v (i64 (Jl r))]) _=_;unfold Ah8 TR;cases h1:Jl r !=0
  ·rw[Ac];refine JD (show c (w_ a 0 a.n) (r.n:Int)=true from g2) ?_;show br (!b (Ad a) (r.n:Int)) _ _=_;cases h2:b (Ad a) (r.n:Int)
   ·rfl
   ·have ha:Jl r=0:=by simpa using h1
    obtain⟨a1,a2,a3⟩:=QH ha;obtain⟨b1,b2⟩:=hb _ _ h2;have b1:a.n=r.n:=b1;refine JD (A4 ⟨by show a.n<=_;omega,by show a.n<=r.n;omega,fun i hi=>?_⟩) rfl;have hi:i<a.n:=hi;have:=b2 i (by omega);show 0<=a.I i 0∧a.I i 0<((r.R i 0).n:Int);rw[(a3 i (by omega)).1];exact this
  ·rfl
 ·cases h
end Go.Proofs.YtnljjjghpgdmoaaGreatDoor
namespace Go.Proofs
open Go.Shelf
def Tryz.lays189_ren:Go.Shelf.Ren:=⟨fun|189=>192|125=>204|257=>203|128=>216|129=>195|294=>207|295=>208|296=>209|297=>210|298=>211|299=>212|216=>213|300=>214|301=>215|328=>217|329=>218|330=>219|331=>220|332=>221|215=>222|343=>223|n=>n,fun|28=>32|3=>3|46=>196|0=>0|51=>233|53=>189|4=>4|183=>282|182=>281|131=>184|5=>5|9=>9|218=>287|222=>291|228=>293|229=>294|n=>n,fun|n=>n⟩
theorem Tryz.lays189:Go.Proofs.Lays.n189 Tryz.prog Tryz.lays189_ren:={
 mixed:=by kernel_rfl
 f125:=Tryz.func204.trans (congrArg some (by kernel_rfl))
 f128:=Tryz.func216.trans (congrArg some (by kernel_rfl))
 f129:=Tryz.func195.trans (congrArg some (by kernel_rfl))
 f189:=Tryz.func192.trans (congrArg some (by kernel_rfl))
 f215:=Tryz.func222.trans (congrArg some (by kernel_rfl))
 f216:=Tryz.func213.trans (congrArg some (by kernel_rfl))
 f257:=Tryz.func203.trans (congrArg some (by kernel_rfl))
 f294:=Tryz.func207.trans (congrArg some (by kernel_rfl))
 f295:=Tryz.func208.trans (congrArg some (by kernel_rfl))
 f296:=Tryz.func209.trans (congrArg some (by kernel_rfl))
 f297:=Tryz.func210.trans (congrArg some (by kernel_rfl))
 f298:=Tryz.func211.trans (congrArg some (by kernel_rfl))
 f299:=Tryz.func212.trans (congrArg some (by kernel_rfl))
 f300:=Tryz.func214.trans (congrArg some (by kernel_rfl))
 f301:=Tryz.func215.trans (congrArg some (by kernel_rfl))
 f328:=Tryz.func217.trans (congrArg some (by kernel_rfl))
 f329:=Tryz.func218.trans (congrArg some (by kernel_rfl))
 f330:=Tryz.func219.trans (congrArg some (by kernel_rfl))
 f331:=Tryz.func220.trans (congrArg some (by kernel_rfl))
 f332:=Tryz.func221.trans (congrArg some (by kernel_rfl))
 f343:=Tryz.func223.trans (congrArg some (by kernel_rfl))
 t0:=Tryz.underlying0
 a0:=Tryz.isAgg0
 z0:=Tryz.sizeOf0
 v0:=Tryz.zeroValue0
 t3:=Tryz.underlying3
 a3:=Tryz.isAgg3
 z3:=Tryz.sizeOf3
 v3:=Tryz.zeroValue3
 t4:=Tryz.underlying4
 a4:=Tryz.isAgg4
 z4:=Tryz.sizeOf4
 v4:=Tryz.zeroValue4
 t5:=Tryz.underlying5
 a5:=Tryz.isAgg5
 z5:=Tryz.sizeOf5
 v5:=Tryz.zeroValue5
 t9:=Tryz.underlying9
 a9:=Tryz.isAgg9
 z9:=Tryz.sizeOf9
 v9:=Tryz.zeroValue9
 t28:=Tryz.underlying32
 a28:=Tryz.isAgg32
 z28:=Tryz.sizeOf32
 v28:=Tryz.zeroValue32
 t46:=Tryz.underlying196
 a46:=Tryz.isAgg196
 z46:=Tryz.sizeOf196
 v46:=Tryz.zeroValue196
 t51:=Tryz.underlying233
 a51:=Tryz.isAgg233
 z51:=Tryz.sizeOf233
 v51:=Tryz.zeroValue233
 t53:=Tryz.underlying189
 a53:=Tryz.isAgg189
 z53:=Tryz.sizeOf189
 v53:=Tryz.zeroValue189
 t131:=Tryz.underlying184
 a131:=Tryz.isAgg184
 z131:=Tryz.sizeOf184
 v131:=Tryz.zeroValue184
 t182:=Tryz.underlying281
 a182:=Tryz.isAgg281
 z182:=Tryz.sizeOf281
 v182:=Tryz.zeroValue281
 t183:=Tryz.underlying282
 a183:=Tryz.isAgg282
 z183:=Tryz.sizeOf282
 v183:=Tryz.zeroValue282
 t218:=Tryz.underlying287
 a218:=Tryz.isAgg287
 z218:=Tryz.sizeOf287
 v218:=Tryz.zeroValue287
 t222:=Tryz.underlying291
 a222:=Tryz.isAgg291
 z222:=Tryz.sizeOf291
 v222:=Tryz.zeroValue291
 t228:=Tryz.underlying293
 a228:=Tryz.isAgg293
 z228:=Tryz.sizeOf293
 v228:=Tryz.zeroValue293
 t229:=Tryz.underlying294
 a229:=Tryz.isAgg294
 z229:=Tryz.sizeOf294
 v229:=Tryz.zeroValue294}
open Go.Sort Go.RowKit in
theorem Tryz.slices_Sort_int(blk off cap:Nat)(zs:List Int)(w:World)(hH:Holds (Value.int .i64) w blk off zs.toArray)(hblk:blk<w.heap.size)(hsz:zs.length<4611686018427387904):
  Calls Tryz.prog 192 #[.slice (some ⟨blk,off,none⟩) zs.length cap] w fun e w'=>
   e=.returned (.tuple #[])∧∃n os,w'=grow (putRow (Value.int .i64) (Sort.ahead w n) blk off (zs.mergeSort fun x y=>decide (x<=y)).toArray) os:=Any.slices_Sort_int Tryz.lays189 blk off cap zs w hH hblk hsz
open Go.RowKit Go.Sort in
theorem Tryz.slices_Sort_int_none(p:Option Addr)(cap:Nat)(w:World):
  Calls Tryz.prog 192 #[.slice p 0 cap] w fun e w'=>e=.returned (.tuple #[])∧w'=w:=Any.slices_Sort_int_none Tryz.lays189 p cap w
end Go.Proofs
namespace Go.Proofs.YtnljjjghpgdmoaaGreatDoor
open Go.Ev Go.RowKit Go.Sort
set_option maxRecDepth 100000
def Yt(p:Prop):Prop:=p
def pG(x y:Int):Bool:=x<=y
set_option maxHeartbeats 1000000 in
theorem Tn(a:Option Addr)(len cap:Nat)(w:World):Calls Tryz.prog 166 #[.slice a len cap] w fun e w'=>e=.returned (.func (.func 193) #[] #[.pointer (some ⟨w.heap.size,0,none⟩)])∧w'=w.alloc (.cells #[.slice a len cap] 32):=by
 go_enter Tryz.func166,Tryz.ntmps166
 go_wp2
 go_ret
 exact⟨rfl,rfl⟩
set_option maxHeartbeats 1000000 in
theorem QO(Bs:Nat)(sv:Value)(len:Nat)(z:Nat->Int)(hlen:len<=1000000)(w:World)(hBs:Bs<w.heap.size)(hcs:w.cell? ⟨Bs,0,none⟩=some sv)(hI:Nums w.heap.size w sv len z):
  Calls Tryz.prog 191 #[.func (.func 193) #[] #[.pointer (some ⟨Bs,0,none⟩)]] w fun e W'=>∃v,e=.returned v∧W'.ownsRow w.heap.size 3 1 v len ((upto z len).map (Value.int .i64))∧(v=.slice none 0 0↔len=0)∧Below w.heap.size w W':=by
 go_enter Tryz.func191,Tryz.ntmps191
 go_wp2_with (first|(go_at_call 202;refine((callsIn_wide (n:=3)).1 (Zf Fence.wide 3 trivial trivial rfl (by omega) Bs sv len z hlen w hBs hcs hI)).mono ?_))
 rintro e w' ⟨v,rfl,hrow,hnil,hb⟩
 go_wp2
 go_ret
 exact⟨v,rfl,hrow,hnil,hb⟩
theorem Oc(l:List Int):(l.mergeSort pG).length=l.length:=(List.mergeSort_perm l pG).length_eq
set_option maxHeartbeats 1000000 in
theorem Tt(Bs:Nat)(sv:Value)(len:Nat)(z:Nat->Int)(hlen:len<=1000000)(w:World)(hBs:Bs<w.heap.size)(hcs:w.cell? ⟨Bs,0,none⟩=some sv)(hI:Nums w.heap.size w sv len z):
  Calls Tryz.prog 165 #[.func (.func 193) #[] #[.pointer (some ⟨Bs,0,none⟩)]] w fun e W'=>∃a cap b,e=.returned (.slice a len cap)∧(0<len->a=some ⟨b,0,none⟩)∧(∀j,j<len->W'.cell? ⟨b,j,none⟩=some (.int .i64 (((upto z len).mergeSort pG).getD j 0)))∧Below w.heap.size w W':=by
 go_enter Tryz.func165,Tryz.ntmps165
 go_wp2_with (first|(go_at_call 191;refine(QO Bs sv len z hlen w hBs hcs hI).mono ?_))
 rintro e W ⟨v,rfl,hrow,hnil,hb⟩;by_cases h0:len=0
 ·subst h0;obtain rfl:=hnil.2 rfl
  go_wp2_with (first|(go_at_call 192;refine(Tryz.slices_Sort_int_none none 0 W).mono ?_))
  rintro e w' ⟨rfl,rfl⟩
  go_wp2
  go_ret
  exact⟨none,0,0,rfl,fun h=>by omega,fun j hj=>by omega,hb⟩
 ·rcases hrow.2 with⟨rfl,hz⟩|⟨gb,cap,cur,rfl,hbase,hgb,r1,r2,r3,r4⟩
  ·exact absurd (hnil.1 rfl) h0
  ·have hul:(upto z len).length=len:=upto_length z len;have hH:Holds (Value.int .i64) W gb 0 (upto z len).toArray:=holds_of_blockI hgb (by rw[hul];simpa using r4);have hgl:gb<W.heap.size:=(A1.1 hgb).1;have cS:=Tryz.slices_Sort_int gb 0 cap (upto z len) W hH hgl (by omega);rw[hul]at cS
   go_wp2_with (first|(go_at_call 192;refine cS.mono ?_))
   rintro e w' ⟨rfl,nn,os,rfl⟩
   go_wp2
   go_ret
   have hrow2:=ownsRow_sortedI (n:=nn) (os:=os) (ss:=upto z len) (ts:=(upto z len).mergeSort pG) (Oc _) hbase hgb (by omega) r2 r3;refine⟨_,cap,gb,rfl,fun _=>rfl,fun j hj=>?_,hb.grown (grownBy_sortedI _) hb.size (fun k hk=>by cases hk;exact hbase)⟩;have hj2:j<((upto z len).mergeSort pG).length:=by rw[Oc,hul];exact hj
   have h9:=hrow2.cells (g:=gb) rfl j (.int .i64 (((upto z len).mergeSort pG).getD j 0)) (by
    rw[List.getElem?_map,AK hj2,List.getD_eq_getElem?_getD,AK hj2];rfl)
   have e9:(⟨gb,0,none⟩:Addr).add j=⟨gb,j,none⟩:=by rw[Addr.add_lit,AE]
   rw[e9]at h9;exact h9
def rX(l:List Int)(n:Int):Bool:= !Ap (fun j=>((l.mergeSort pG).getD j 0) !=(j:Int)) l.length 0&&((l.length:Int)==n)
set_option maxHeartbeats 2000000 in
theorem N9(a:Option Addr)(b off len cap:Nat)(z:Nat->Int)(n:Int)(hlen:len<=1000000)(w:World)(ha:0<len->a=some ⟨b,off,none⟩∧b<w.heap.size)(hc:∀j,j<len->w.cell? ⟨b,off+j,none⟩=some (.int .i64 (z j))):
  Calls Tryz.prog 129 #[.slice a len cap,.int .i64 n] w fun e w'=>e=.returned (.bool (rX (upto z len) n))∧Below w.heap.size w w':=by
 have hb0:Below w.heap.size w (w.alloc (.cells #[.slice a len cap] 32)):=(Below.refl _ w).alloc (AC _) _;have hsz:(w.alloc (.cells #[.slice a len cap] 32)).heap.size=w.heap.size+1:=by simp
 have hnew:(w.alloc (.cells #[.slice a len cap] 32)).heap[w.heap.size]? =some (.cells #[.slice a len cap] 32 (0,0)):=by
  show(w.heap.push _)[w.heap.size]? =_;simp
 have hcell:(w.alloc (.cells #[.slice a len cap] 32)).cell? ⟨w.heap.size,0,none⟩=some (.slice a len cap):=by
  simp only[World.cell?,hnew];rfl
 have hN:Nums (w.alloc (.cells #[.slice a len cap] 32)).heap.size (w.alloc (.cells #[.slice a len cap] 32)) (.slice a len cap) len z:=
  ⟨a,cap,b,off,rfl,fun h=>⟨(ha h).1,by have:=(ha h).2;omega⟩,fun j hj=>(hb0.cell (p:=⟨b,off+j,none⟩) (ha (by omega)).2).trans (hc j hj)⟩
 go_enter Tryz.func129,Tryz.ntmps129
 have hS:=Tt w.heap.size (.slice a len cap) len z hlen _ (by omega) hcell hN;have hS2:Calls Tryz.prog 165 #[.func (.func 193) #[] #[.pointer (some ⟨w.heap.size,0,none⟩)]] (w.alloc (.cells #[.slice a len cap] 32)) fun e w'=>∃a2 cap2 b2,e=.returned (.slice a2 len cap2)∧(0<len->a2=some ⟨b2,0,none⟩)∧(∀j,j<len->w'.cell? ⟨b2,j,none⟩=some (.int .i64 (((upto z len).mergeSort pG).getD j 0)))∧Below w.heap.size w w':=hS.mono fun e w' ⟨a2,cap2,b2,h1,h2,h3,h4⟩=>⟨a2,cap2,b2,h1,h2,h3,hb0.trans (h4.mono (by omega))⟩;clear hS hcell hN hb0 ha hc hsz;have hul:(upto z len).length=len:=upto_length z len;obtain⟨q,hq⟩:∃q:Nat->Int,∀j,((upto z len).mergeSort pG).getD j 0=q j:=⟨_,fun _=>rfl⟩;have hqa:Yt (rX (upto z len) n=(!Ap (fun j=>q j !=(j:Int)) len 0&&((len:Int)==n))):=by
  show _=_;unfold rX;rw[hul]
  congr 2
  exact Oe fun i _ _=>by rw[hq]
 simp only[hq]at hS2;clear hq hul
 go_wp2_with (first|(go_at_call 166;refine(Tn a len cap w).mono ?_;rintro e w1 ⟨rfl,rfl⟩)|(go_at_call 165;refine hS2.mono ?_;rintro e w2 ⟨a2,cap2,b2,rfl,ha2,hc2,hB⟩))
 clear hS2 hnew;have hB2:Yt (Below w.heap.size w w2):=hB;clear hB
 go_loopw [13] (fun i wr=>∃k:Nat,i=.int .i64 k∧k<=len∧wr=w2∧∀j,j<k->q j=(j:Int)) (fun i _=>len-(RowKit.intOf i).toNat)
 case atStart=>exact⟨0,rfl,Nat.zero_le _,rfl,fun j hj=>by omega⟩
 case round=>
  obtain⟨k,rfl,hk,rfl,hall⟩:=hrel;have hall2:Yt (∀j,j<k->q j=(j:Int)):=hall;clear hall;by_cases hp:k<len
  ·have ha2':=ha2 (by omega);subst ha2';have hcx:=hc2 k hp;clear hc2 ha2;by_cases he:q k=(k:Int)
   ·have he2:Yt (q k=(k:Int)):=he;rw[he]at hcx;clear he
    go_wp2
    go_roundw
    case rel=>
     refine⟨k+1,by go_num,by omega,by first|rfl|trivial,fun j hj=>?_⟩
     by_cases hjk:j=k
     ·subst hjk;exact he2
     ·exact hall2 j (by omega)
    case measure=>simp[RowKit.intOf];omega
   ·have hfal:Yt (rX (upto z len) n=false):=by
     show _=_;rw[show _=_ from hqa,anyF_iff.2 ⟨k,Nat.zero_le _,by omega,by simpa using he⟩];rfl
    have he3:(q k==(k:Int))=false:=by simpa using he
    clear hqa hall2;generalize q k=x at hcx he3 he
    go_wp2
    go_ret
    exact⟨by rw[show rX (upto z len) n=false from hfal];rfl,hB2⟩
  ·obtain rfl:k=len:=by omega
   have htr:Yt (rX (upto z k) n=((k:Int)==n)):=by
    show _=_;rw[show _=_ from hqa,anyF_false.2 (fun i _ hi=>by simpa using hall2 i (by omega))];rfl
   clear hqa hall2
   go_wp2
   go_ret
   exact⟨by rw[show rX (upto z k) n=((k:Int)==n)from htr];rfl,hB2⟩
theorem ED{mem:List (Option Blk)}{ρ:Ev.Map}{B N id:Nat}{w:World}{ks:List CK}{r:Row}{y:Value}(hm:MemR mem ρ B w)(hid:mem[id]? =some (some (.row ks false r)))(hy:V ρ N (.slice (some ⟨id,0,some 0⟩) r.n 0) y):
  ∃a cap b off,y=.slice a r.n cap∧(0<r.n->a=some ⟨b,off,none⟩∧b<w.heap.size)∧∃v:Nat->Nat->Value,(∀e j k,e<r.n->ks[j]? =some k->w.cell? ⟨b,off+e*ks.length+j,none⟩=some (v e j))∧∀e j k,e<r.n->ks[j]? =some k->CellR (Ev.okB mem ρ w) w k r e j (v e j):=by
 obtain⟨L,hL,hn,hz,_,hrd,_⟩:=hm.blk id _ hid;cases hy with
 |sliceDead _ h2=>rw[hL]at h2;cases h2
 |@slice _ _ _ M a cap _ h2 h3 h4 h5 h6=>
  have hML:M=L:=by rw[hL]at h2;cases h2;rfl
  subst hML;refine⟨a,cap,M.b,M.off,rfl,fun h=>⟨?_,((hrd h).1 rfl).1⟩,?_⟩
  ·rw[h5 h];show some (Loc.adr M 0 0)=_;unfold Loc.adr;rw[Nat.zero_mul,Nat.add_zero]
  ·by_cases hpos:0<r.n
   ·obtain⟨_,hr⟩:=hrd hpos;cases hr with
    |mk v g1 g2=>exact⟨v,g1,g2⟩
   ·exact⟨fun _ _=>unk,fun e j k he=>by omega,fun e j k he=>by omega⟩
theorem Ey{ok:Nat->Prop}{w:World}{k:IntKind}{r:Row}{e j:Nat}{y:Value}(h:CellR ok w (.int k) r e j y):y=.int k (r.I e j):=by cases h;rfl
theorem Na{ρ:Ev.Map}{N:Nat}{k:IntKind}{n:Int}{y:Value}(h:V ρ N (.int k n) y):y=.int k n:=by cases h;rfl
theorem NJ(B:Nat)(w:World):MemR [] (fun _=>none) B w:=⟨fun id b h=>by simp at h,fun _ _=>rfl,fun i j b h=>by obtain⟨_,_,h1,_⟩:=h;cases h1⟩
def KY(a:Row)(n:Int):Bool:=rX (upto (fun j=>a.I j 0) a.n) n
theorem tH:Den Tryz.prog 129 (FAs (fun a _=>decide (a.n<=1000000)) KY):=by
 intro wb ds rs hF w hbw args vs mem ρ hfrom hm hl hva;unfold FAs at hF;split at hF
 ·rename_i a n;simp only[A5,A6,A3]at hF;obtain⟨h0,rfl⟩:=hF;have e1:vs=[S_ 0 0 a.n,.int .i64 n]∧mem=[some (.row [.int .i64] false a)]:=by
   have:Az false [D.slice [.int .i64] a,D.v (.int .i64 n)] []=some ([S_ 0 0 a.n,.int .i64 n],[some (.row [.int .i64] false a)]):=rfl;rw[this]at hfrom;simp only[A5,A6]at hfrom;exact⟨hfrom.1.symm,hfrom.2.symm⟩
  obtain⟨rfl,rfl⟩:=e1
  match args,hl with
  |[a1,a2],_=>
  have v1:=hva 0 _ _ rfl rfl;have e2:=Na (hva 1 _ _ rfl rfl);subst e2;obtain⟨ad,cap,b,off,rfl,hb,v,q1,q2⟩:=ED (ks:=[.int .i64]) (r:=a) hm rfl v1;refine(N9 ad b off a.n cap (fun j=>a.I j 0) n h0 w hb (fun j hj=>?_)).mono fun e w' ⟨he,hb'⟩=>?_
  ·have:=q1 j 0 _ hj rfl;rw[Ey (q2 j 0 _ hj rfl)]at this;rw[<-this];show w.cell? _=w.cell? ⟨b,off+j*1+0,none⟩;rw[Nat.mul_one,Nat.add_zero]
  ·exact⟨_,he,hb',[.bool _],[],fun _=>none,rfl,NJ _ _,.bool⟩
 ·cases hF
theorem aO{z:Nat->Int}{n i:Nat}(h:i<n):z i∈upto z n:=List.mem_map.2 ⟨i,List.mem_range.2 h,rfl⟩
theorem Uj(a:Row)(n:Nat)(h:KY a (n:Int)=true):a.n=n∧∀i,i<n->0<=a.I i 0∧a.I i 0<(n:Int):=by
 unfold KY rX at h;rw[A2,Bool.not_eq_true',beq_iff_eq,upto_length]at h;obtain⟨h1,h2⟩:=h;have hn:a.n=n:=by omega
 refine⟨hn,fun i hi=>?_⟩;have h3:=aO (z:=fun j=>a.I j 0) (n:=a.n) (i:=i) (by omega);have h4:a.I i 0∈(upto (fun j=>a.I j 0) a.n).mergeSort pG:=(List.mergeSort_perm _ _).mem_iff.2 h3;obtain⟨j,hj,he⟩:=List.getElem_of_mem h4;have hjn:j<a.n:=by rw[Oc,upto_length]at hj;exact hj
 have h5:=anyF_false.1 h1 j (Nat.zero_le _) (by omega);rw[List.getD_eq_getElem?_getD,AK hj,Option.getD_some,he]at h5;have h6:a.I i 0=(j:Int):=by simpa using h5
 omega
theorem Aek:Den Tryz.prog 86 (FVl (Vo (fun a _=>decide (a.n<=1000000))) (Ah8 KY) (TR KY)):=uY tH Uj
theorem den_rv:Den Tryz.prog 38 (FRv (YQ (Vo (fun a _=>decide (a.n<=1000000)))) (YP (TR KY))):=uO Aek
end Go.Proofs.YtnljjjghpgdmoaaGreatDoor
namespace Go.Proofs.YtnljjjghpgdmoaaGreatDoor
open Go.Ev Go.Lib Go.RowKit
def BR(x:Nat->Int):Nat->List UInt8
 |0=>[]
 |n+1=>BR x n++(32::itoa (x n))
theorem Fv{x:Nat->Int}(h:∀j,iR (x j)=true):∀n,(BR x n).length<=n*22
 |0=>Nat.zero_le _
 |n+1=>by
  have h1:=Fv h n;have h2:=ES (h n);show(BR x n++(32::itoa (x n))).length<=_;rw[AG,List.length_cons];omega
theorem TE{w:World}(k:Nat)(os:Array Obj)(b:Option Nat):Lib.OthersKept 5 b w (Go.Sort.grow (w.drewN k) os):=fun g o h _ _=>by
 show(w.heap++os)[g]? =_;have hlt:g<w.heap.size:=by
  rcases Nat.lt_or_ge g w.heap.size with h'|h'
  ·exact h'
  ·rw[Array.getElem?_eq_none h']at h;cases h
 rw[Array.getElem?_append_left hlt];exact h
theorem Aga(b:Nat)(n:Int)(h:iR n=true):∃s:ByteArray,Ae s=itoa n∧s.size<=21∧∀w,Wd w->Calls Tryz.prog 65 #[.int .i64 n] w fun e w'=>e=.returned (.string s)∧Below w.heap.size w w'∧Lib.OthersKept 5 (some b) w w':=by
 obtain⟨h1,h2⟩:=iR_iff.1 h;refine⟨txt (itoa n),Dt _,by rw[BV];exact ES h,fun w hw=>(Tryz.strconv_Itoa n h1 h2 w hw.pow).mono ?_⟩;rintro e w' ⟨he,k,os,rfl⟩;exact⟨he,Pi w k os,TE k os _⟩
def Hid(p:Prop):Prop:=p
set_option maxHeartbeats 4000000 in
set_option maxRecDepth 1000000 in
theorem L8(B b:Nat)(L:List UInt8)(word:ByteArray)(a:Option Addr)(g off n cap:Nat)(x:Nat->Int)(w:World)(hW:∀w',Below B w w'->Wd w')(hI:Lib.IsBuilderF 68 5 B b (Lib.byteCells L) w)(hB:B<=w.heap.size)
  (ha:0<n->a=some ⟨g,off,none⟩) (hx:∀j,iR (x j)=true) (hl:∀w',Below B w w'->Lib.OthersKept 5 (some b) w w'->∀j,j<n->w'.cell? ⟨g,off+j,none⟩=some (.int .i64 (x j)))
  (hlen:L.length+word.size+n*22<=1000000000000):
  Calls Tryz.prog 22 #[.pointer (some ⟨b,0,none⟩),.string word,.slice a n cap] w fun e w'=>e=.returned (.tuple #[])∧Lib.IsBuilderF 68 5 B b (Lib.byteCells (L++Ae word++BR x n++[10])) w'∧Below B w w'∧Lib.OthersKept 5 (some b) w w':=by
 have mx:Tryz.prog.follows .mixedOrders=true:=mixed
 go_enter Tryz.func22,Tryz.ntmps22
 go_wp2_with (first|(go_at_call 19;refine(FI B b L word _ hI ?_ hB).mono ?_))
 ·omega
 rintro e w1 ⟨rfl,hI1,hb1,hk1⟩
 go_wp2
 go_loopw [15] (fun i wr=>∃k:Nat,i=.int .i64 k∧k<=n∧Lib.IsBuilderF 68 5 B b (Lib.byteCells (L++Ae word++BR x k)) wr∧Below B w wr∧Lib.OthersKept 5 (some b) w wr) (fun i _=>n-(RowKit.intOf i).toNat)
 case atStart=>
  exact⟨0,rfl,Nat.zero_le _,by simpa [BR]using hI1,hb1,hk1⟩
 case round=>
  obtain⟨k,rfl,hk,hI2,hb2,hk2⟩:=hrel;by_cases hp:k<n
  ·have ha':=ha (by omega);subst ha';have hc:=hl _ hb2 hk2 k hp;obtain⟨i0,i1⟩:=iR_iff.1 (hx k)
   go_wp2
   have hle:(L++Ae word++BR x k).length<=2000000000000:=by
    have h1:=Fv hx k;have h3:k*22<=n*22:=AH _ hk;have h4:(Ae word).length=word.size:=(BL word).symm;rw[AG,AG];omega
   have hId:Lib.IsBuilderF 68 5 B b (Lib.byteCells (L++Ae word++BR x k)) wr.drew:=hI2;obtain⟨s,hs1,hs2,hs3⟩:=Aga b (x k) (hx k);obtain⟨Cq,hq1,hq2⟩:∃Cq:World->Prop,(∀v,Cq v->Below B w v∧Lib.OthersKept 5 (some b) w v∧Lib.IsBuilderF 68 5 B b (Lib.byteCells (L++Ae word++BR x k)) v)∧(∀v,Below B w v->Lib.OthersKept 5 (some b) w v->Lib.IsBuilderF 68 5 B b (Lib.byteCells (L++Ae word++BR x k)) v->Cq v):=⟨fun v=>Below B w v∧Lib.OthersKept 5 (some b) w v∧Lib.IsBuilderF 68 5 B b (Lib.byteCells (L++Ae word++BR x k)) v,fun _ h=>h,fun _ h1 h2 h3=>⟨h1,h2,h3⟩⟩;refine Bg (C:=Cq) 6 mx (by kernel_rfl) (hq2 wr.drew (Below.drew hb2) hk2.drew hId) ?_;have hcall:∀v,Cq v->Calls Tryz.prog 65 #[.int .i64 (x k)] v fun e w'=>e=.returned (.string s)∧Cq w':=fun v hv=>by
    obtain⟨g1,g2,g3⟩:=hq1 v hv;refine(hs3 v (hW v g1)).mono ?_;rintro e w' ⟨he,hb3,hk3⟩;exact⟨he,hq2 _ (g1.trans (hb3.mono (Nat.le_trans hB g1.size))) (g2.trans hk3) (g3.below hb3)⟩
   dsimp only[List.take,List.drop];have hq:Hid (∀v,Cq v->Below B w v∧Lib.OthersKept 5 (some b) w v∧Lib.IsBuilderF 68 5 B b (Lib.byteCells (L++Ae word++BR x k)) v):=hq1;have hcl:Hid (∀v,Cq v->Calls Tryz.prog 65 #[.int .i64 (x k)] v fun e w'=>e=.returned (.string s)∧Cq w'):=hcall;clear hq1 hq2 hcall;refine wpQuiet_step (fun K hK=>?_)
   go_simp
   refine⟨_,fun v hv=>rfl,hK _ ?_⟩;clear hK K;refine wpQuiet_step (fun K hK=>?_)
   go_simp
   refine⟨_,fun v hv=>rfl,hK _ ?_⟩;clear hK K;refine wpQuiet_step (fun K hK=>?_)
   go_simp
   refine⟨_,fun v hv=>rfl,hK _ ?_⟩;clear hK K;refine wpQuiet_step (fun K hK=>?_)
   go_simp
   refine⟨_,fun v hv=>rfl,hK _ ?_⟩;clear hK K;refine wpQuiet_step (fun K hK=>?_)
   go_simp
   refine⟨.string s,fun v hv=>(show∀v,Cq v->Calls Tryz.prog 65 #[.int .i64 (x k)] v fun e w'=>e=.returned (.string s)∧Cq w' from hcl) v hv,hK _ ?_⟩;clear hK K;refine wpQuiet_step (fun K hK=>?_)
   go_simp
   refine⟨.string (ByteArray.mk #[32]++s),fun v hv=>?_,hK _ ?_⟩
   ·rw[AL (show¬9223372036854775807<1+s.size by omega)];exact⟨rfl,rfl⟩
   clear hK K;refine wpQuiet_nil ?_;intro w5 h5;obtain⟨g1,g2,g3⟩:=(show∀v,Cq v->Below B w v∧Lib.OthersKept 5 (some b) w v∧Lib.IsBuilderF 68 5 B b (Lib.byteCells (L++Ae word++BR x k)) v from hq) w5 h5;have hB5:B<=w5.heap.size:=Nat.le_trans hB g1.size;have hlen5:(L++Ae word++BR x k).length+(ByteArray.mk #[32]++s).size<=140737488355328:=by
    rw[ByteArray.size_append];show _+(1+_)<=_;omega
   clear hq hcl h5
   go_wp2_with (first|(go_at_call 19;refine(FI B b (L++Ae word++BR x k) _ w5 g3 ?_ hB5).mono ?_))
   ·exact hlen5
   rintro e w6 ⟨rfl,h6,b6,k6⟩
   go_wp2
   go_roundw
   case rel=>
    refine⟨k+1,by go_num,by omega,?_,g1.trans b6,g2.trans k6⟩;have e1:Ae (ByteArray.mk #[32]++s)=32::itoa (x k):=by rw[Ee,hs1];rfl
    rw[e1]at h6;rw[show BR x (k+1)=BR x k++(32::itoa (x k))from rfl,<-List.append_assoc];exact h6
   case measure=>
    simp[RowKit.intOf];omega
  ·have hkn:k=n:=by omega
   subst hkn;have hle:(L++Ae word++BR x k).length<=2000000000000:=by
    have h1:=Fv hx k;have h4:(Ae word).length=word.size:=(BL word).symm;rw[AG,AG];omega
   have hB5:B<=wr.heap.size:=Nat.le_trans hB hb2.size;have hlen5:(L++Ae word++BR x k).length+(ByteArray.mk #[10]).size<=140737488355328:=by
    show _+1<=_;omega
   clear hl
   go_wp2_with (first|(go_at_call 19;refine(FI B b (L++Ae word++BR x k) _ wr hI2 ?_ hB5).mono ?_))
   ·exact hlen5
   rintro e w6 ⟨rfl,h6,b6,k6⟩
   go_wp2
   go_end0
   exact⟨rfl,h6,hb2.trans b6,hk2.trans k6⟩
structure WrI(w2:World)(b:Nat)(L:List UInt8)(w:World):Prop where
 bel:Below b w2 w
 oth:Lib.OthersKept 5 (some b) w2 w
 bld:Lib.IsBuilderF 68 5 b b (Lib.byteCells L) w
theorem WrI.alloc{w2:World}{b:Nat}{L:List UInt8}{w:World}(h:WrI w2 b L w)(hb:b<=w2.heap.size)(o:Obj):WrI w2 b L (w.alloc o):=
 ⟨h.bel.alloc (Nat.le_trans hb h.bel.size) o,h.oth.alloc o,h.bld.alloc o⟩
theorem WrI.drew{w2:World}{b:Nat}{L:List UInt8}{w:World}(h:WrI w2 b L w):WrI w2 b L w.drew:=⟨Below.drew h.bel,h.oth.drew,h.bld⟩
theorem Iw{w2:World}{b:Nat}{L:List UInt8}{w:World}(h:WrI w2 b L w)(hW:∀w',Below b w2 w'->Wd w')(hb:b<=w2.heap.size)(word:ByteArray)(a:Option Addr)(g off n cap:Nat)(x:Nat->Int)
  (ha:0<n->a=some ⟨g,off,none⟩) (hx:∀j,iR (x j)=true) (hg:0<n->g<b) (hc:∀j,j<n->w2.cell? ⟨g,off+j,none⟩=some (.int .i64 (x j))) (hlen:L.length+word.size+n*22<=1000000000000):
  Calls Tryz.prog 22 #[.pointer (some ⟨b,0,none⟩),.string word,.slice a n cap] w fun e w'=>e=.returned (.tuple #[])∧WrI w2 b (L++Ae word++BR x n++[10]) w':=
 (L8 b b L word a g off n cap x w (fun w' h'=>hW w' (h.bel.trans h')) h.bld (Nat.le_trans hb h.bel.size) ha hx (fun w' h1 _ j hj=>by
  rw[(h.bel.trans h1).cell (p:=⟨g,off+j,none⟩) (hg (by omega))];exact hc j hj) hlen).mono fun e w' ⟨he,h1,h2,h3⟩=>⟨he,h.bel.trans h2,h.oth.trans h3,h1⟩
theorem GZ{w2:World}{b:Nat}{L:List UInt8}{w:World}(h:WrI w2 b L w)(hW:∀w',Below b w2 w'->Wd w')(hb:b<=w2.heap.size)(word:ByteArray)(g n cap:Nat)(x:Nat->Int)(cs:Array Value)(fr:Nat×Nat)
  (hx:∀j,iR (x j)=true) (hg:g≠b) (ho:w.heap[g]? =some (.cells cs 3 fr)) (hc:∀j,j<n->cs[j]? =some (.int .i64 (x j))) (hlen:L.length+word.size+n*22<=1000000000000):
  Calls Tryz.prog 22 #[.pointer (some ⟨b,0,none⟩),.string word,.slice (some ⟨g,0,none⟩) n cap] w fun e w'=>e=.returned (.tuple #[])∧WrI w2 b (L++Ae word++BR x n++[10]) w':=
 (L8 b b L word _ g 0 n cap x w (fun w' h'=>hW w' (h.bel.trans h')) h.bld (Nat.le_trans hb h.bel.size) (fun _=>rfl) hx (fun w' _ h2 j hj=>by
  have:=h2 g _ ho (fun e=>hg (by simpa using e)) (fun c fz e=>by cases e);show(match w'.heap[g]? with|_=>_)=_
  rw[AE];rw[Lib.cell_of_heap this];exact hc j hj) hlen).mono fun e w' ⟨he,h1,h2,h3⟩=>⟨he,h.bel.trans h2,h.oth.trans h3,h1⟩
theorem NP{w2:World}{b:Nat}{L:List UInt8}{w:World}(h:WrI w2 b L w)(hb:b<=w2.heap.size)(s:ByteArray)(hlen:L.length+s.size<=140737488355328):
  Calls Tryz.prog 19 #[.pointer (some ⟨b,0,none⟩),.string s] w fun e w'=>e=.returned (.tuple #[.int .i64 s.size,.nilIface])∧WrI w2 b (L++Ae s) w':=
 (FI b b L s w h.bld hlen (Nat.le_trans hb h.bel.size)).mono fun e w' ⟨he,h1,h2,h3⟩=>⟨he,h.bel.trans h2,h.oth.trans h3,h1⟩
def sCake:ByteArray:=⟨⟨[99,97,107,101]⟩⟩
def sGoods:ByteArray:=⟨⟨[103,111,111,100,115]⟩⟩
def sRent:ByteArray:=⟨⟨[114,101,110,116]⟩⟩
def sSettle:ByteArray:=⟨⟨[115,101,116,116,108,101]⟩⟩
theorem JO{w w':World}(h:Below w.heap.size w w')(b:Option Nat):Lib.OthersKept 5 b w w':=fun k o hk _ _=>by
 have hlt:k<w.heap.size:=by
  rcases Nat.lt_or_ge k w.heap.size with h'|h'
  ·exact h'
  ·rw[Array.getElem?_eq_none h']at hk;cases hk
 rw[h.block k hlt];exact hk
theorem WrI.step{w2:World}{b:Nat}{L:List UInt8}{w w':World}(h:WrI w2 b L w)(hb:b<=w2.heap.size)(h':Below w.heap.size w w'):WrI w2 b L w':=
 ⟨h.bel.trans (h'.mono (Nat.le_trans hb h.bel.size)),h.oth.trans (JO h' _),h.bld.below h'⟩
noncomputable def CK0:Cx:=AU Tryz.prog fns [] []
theorem Afj:Bi CK0:=Aq enter mixed (fun p h=>by cases h) (fun l h=>by cases h)
def Aia:FD
 |[]=>some (true,[.agg [.v (.string sCake),.v (.string sGoods),.v (.string sRent),.v (.string sSettle)]])
 |_=>none
theorem u57:BZ CK0 6 20 []=some [.agg [.v (.string sCake),.v (.string sGoods),.v (.string sRent),.v (.string sSettle)]]:=by kernel_rfl
theorem tN:Den Tryz.prog 20 Aia:=Ag Afj fun ds rs h=>by
 unfold Aia at h;split at h
 ·cases h;exact u57
 ·cases h
theorem Us{ρ:Ev.Map}{N:Nat}{s:ByteArray}{y:Value}(h:V ρ N (.string s) y):y=.string s:=by cases h;rfl
theorem NS{w2:World}{b:Nat}{L:List UInt8}{w:World}(h:WrI w2 b L w)(hb:b<=w2.heap.size):Calls Tryz.prog 20 #[] w fun e w'=>e=.returned (.agg #[.string sCake,.string sGoods,.string sRent,.string sSettle])∧WrI w2 b L w':=by
 refine(tN w [] _ rfl w (Below.refl _ _) [] [] [] (fun _=>none) rfl (NJ _ _) rfl (fun i x c hx=>by simp at hx)).mono fun e w' ⟨cv,he,hb',us,mem',ρ',hf,_,hcv⟩=>?_;have e2:us=[.agg ⟨[.string sCake,.string sGoods,.string sRent,.string sSettle]⟩]:=by
  have:Az true [D.agg [.v (.string sCake),.v (.string sGoods),.v (.string sRent),.v (.string sSettle)]] []=some ([.agg ⟨[.string sCake,.string sGoods,.string sRent,.string sSettle]⟩],[]):=rfl;rw[this]at hf;simp only[A5,A6]at hf;exact hf.1.symm
 subst e2;have hcv:V ρ' mem'.length (.agg ⟨[.string sCake,.string sGoods,.string sRent,.string sSettle]⟩) cv:=hcv;refine⟨?_,h.step hb hb'⟩;rw[he];cases hcv with
 |@agg _ cs hs hc=>
  have hcs:cs= #[.string sCake,.string sGoods,.string sRent,.string sSettle]:=by
   have hs':cs.size=4:=hs.symm;apply Array.ext (by rw[hs'];rfl);intro i h1 h2;have hi:i<4:=by omega
   have h3:cs[i]? =some cs[i]:=AJ h1
   match i,hi with
   |0,_=>exact Us (hc 0 _ _ rfl h3)
   |1,_=>exact Us (hc 1 _ _ rfl h3)
   |2,_=>exact Us (hc 2 _ _ rfl h3)
   |3,_=>exact Us (hc 3 _ _ rfl h3)
  rw[hcs]
def sDocument:ByteArray:=⟨⟨[100,111,99,117,109,101,110,116,32]⟩⟩
def sValues:ByteArray:=⟨⟨[118,97,108,117,101,115]⟩⟩
def sGive:ByteArray:=⟨⟨[103,105,118,101]⟩⟩
def sClaims:ByteArray:=⟨⟨[99,108,97,105,109,115]⟩⟩
def sBalances:ByteArray:=⟨⟨[98,97,108,97,110,99,101,115]⟩⟩
def sPay:ByteArray:=⟨⟨[112,97,121]⟩⟩
def Ir(s:ByteArray):List UInt8:=Ae sDocument++Ae s++[10]
def F6(word:ByteArray)(x:Nat->Nat->Int)(n:Nat->Nat):Nat->List UInt8
 |0=>[]
 |k+1=>F6 word x n k++(Ae word++BR (x k) (n k)++[10])
def Zn(n:Int):List UInt8:=Ae sClaims++BR (fun _=>n) 1++[10]
def P9(ec:Int)(t:List UInt8):ByteArray:=bif ec !=0 then .empty else bif 60000<t.length then .empty else txt t
def Me(ec:Int)(t:List UInt8):Int:=bif ec !=0 then ec else bif 60000<t.length then 4 else 0
def goT(X:Nat->Nat->Int)(rn:Nat->Nat)(gn:Nat)(A:Nat->Int)(an:Nat)(c:Int):List UInt8:=Ir sGoods++F6 sValues X rn gn++(Ae sGive++BR A an++[10])++Zn c
theorem Ie{word:ByteArray}{x:Nat->Nat->Int}{n:Nat->Nat}(hw:word.size<=100)(hx:∀e j,iR (x e j)=true):∀k,(∀e,e<k->n e<=1000)->(F6 word x n k).length<=k*30000
 |0,_=>Nat.zero_le _
 |k+1,h=>by
  have h1:=Ie hw hx k (fun e he=>h e (by omega));have h2:=Fv (hx k) (n k);have h3:=h k (by omega);have h4:(Ae word).length=word.size:=(BL word).symm;show(F6 word x n k++(Ae word++BR (x k) (n k)++[10])).length<=_;rw[AG,AG,AG,List.length_singleton];omega
theorem YY(v:World):(Instr.index 73 (.agg #[.string sCake,.string sGoods,.string sRent,.string sSettle]) (.int .u8 (IntKind.u8.wrap 1))).run Tryz.prog v=.ok (.string sGoods) v:=by kernel_rfl
theorem VH(v:World):(Instr.index 73 (.agg #[.string sCake,.string sGoods,.string sRent,.string sSettle]) (.int .u8 (IntKind.u8.wrap 3))).run Tryz.prog v=.ok (.string sSettle) v:=by kernel_rfl
theorem BG(w:World)(o:Obj):(w.alloc o).heap[w.heap.size]? =some o:=by
 show(w.heap.push o)[w.heap.size]? =_;simp
theorem Be(w:World)(o:Obj):w.heap.size<(w.alloc o).heap.size:=by
 show _<(w.heap.push o).size;simp
set_option maxHeartbeats 4000000 in
set_option maxRecDepth 1000000 in
theorem Vg(w:World)(c1 c2 c4 c7 c9 c10 c12 c13:Value)(pc rr ld cl:Int)(ga aa:Option Addr)(gn gc an ac gb goff ab ao:Nat)(ra:Nat->Option Addr)(rb ro rn rcp:Nat->Nat)(X:Nat->Nat->Int)(A:Nat->Int)(ec:Int)
  (hchk:∀w',Below w.heap.size w w'->Calls Tryz.prog 10 #[.agg #[.int .u8 2,c1,c2,.int .u8 pc,c4,.slice ga gn gc,.slice aa an ac,c7,.int .i64 rr,c9,c10,.int .i64 ld,c12,c13,.int .u8 cl]] w' fun e w''=>e=.returned (.int .i64 ec)∧Below w'.heap.size w' w'')
  (hWd:∀w',Below w.heap.size w w'->Wd w')
  (hga:0<gn->ga=some ⟨gb,goff,none⟩) (hgb:0<gn->gb<w.heap.size) (hg:∀e,e<gn->w.cell? ⟨gb,goff+e,none⟩=some (.slice (ra e) (rn e) (rcp e)))
  (hra:∀e,e<gn->0<rn e->ra e=some ⟨rb e,ro e,none⟩∧rb e<w.heap.size) (hr:∀e,e<gn->∀j,j<rn e->w.cell? ⟨rb e,ro e+j,none⟩=some (.int .i64 (X e j)))
  (haa:0<an->aa=some ⟨ab,ao,none⟩∧ab<w.heap.size) (ha:∀j,j<an->w.cell? ⟨ab,ao+j,none⟩=some (.int .i64 (A j)))
  (hX:∀e j,iR (X e j)=true) (hA:∀j,iR (A j)=true) (hl:ec=0->gn<=1000∧(∀e,e<gn->rn e<=1000)∧an<=1000) (hc:ec=0->0<=pc∧pc<=255∧0<=cl∧cl<=255):
  Calls Tryz.prog 6 #[.agg #[.int .u8 2,c1,c2,.int .u8 pc,c4,.slice ga gn gc,.slice aa an ac,c7,.int .i64 rr,c9,c10,.int .i64 ld,c12,c13,.int .u8 cl]] w fun e w'=>e=.returned (.tuple #[.string (P9 ec (goT X rn gn A an (cl+pc))),.int .i64 (Me ec (goT X rn gn A an (cl+pc)))])∧Below w.heap.size w w':=by
 have mx:Tryz.prog.follows .mixedOrders=true:=mixed
 go_enter Tryz.func6,Tryz.ntmps6
 go_wp2_with (first|(go_at_call 10;refine(hchk _ ?_).mono ?_))
 ·exact(Below.refl _ w).alloc (AC _) _
 rintro e w1 ⟨rfl,hb1⟩;by_cases hec:ec=0
 rotate_left
 ·have hec2:(ec !=0)=true:=by simpa using hec
  go_wp2
  go_ret2
  unfold P9 Me;rw[hec2];exact⟨rfl,((Below.refl _ w).alloc (AC _) _).trans (hb1.mono (by simp))⟩
 ·obtain⟨hl1,hl2,hl3⟩:=hl hec;obtain⟨p0,p1,q0,q1⟩:=hc hec;subst hec;clear hl hc
  go_wp2
  have hb0:Below w.heap.size w w1:=((Below.refl _ w).alloc (AC _) _).trans (hb1.mono (Nat.le_of_lt (Be w _)));have hN:w.heap.size<w1.heap.size:=Nat.lt_of_lt_of_le (Be w _) hb1.size;have hbox:w1.heap[w.heap.size]? =some (.cells #[.int .u8 2,c1,c2,.int .u8 pc,c4,.slice ga gn gc,.slice aa an ac,c7,.int .i64 rr,c9,c10,.int .i64 ld,c12,c13,.int .u8 cl] 39 (0,0)):=by
   rw[hb1.block w.heap.size (Be w _)];exact BG w _
  obtain⟨w2,hw2⟩:∃w2,w2=w1.alloc (.cells #[.pointer none,.slice none 0 0] 68):=⟨_,rfl⟩;have hI0:WrI w2 w1.heap.size [] w2:=⟨Below.refl _ _,Lib.OthersKept.refl _ _ _,by rw[hw2];exact Lib.IsBuilderF.of (Lib.fresh_isBuilder 68 5 w1)⟩;have hb3:w1.heap.size<w2.heap.size:=by rw[hw2];exact Be w1 _
  have hb2:w1.heap.size<=w2.heap.size:=by rw[hw2];exact Nat.le_of_lt (Be w1 _)
  have hbel2:∀k,k<w1.heap.size->w2.heap[k]? =w1.heap[k]? :=fun k hk=>by rw[hw2];exact Below.heap_alloc w1 _ k hk
  have hbox2:∀v,Below w1.heap.size w2 v->v.heap[w.heap.size]? =some (.cells #[.int .u8 2,c1,c2,.int .u8 pc,c4,.slice ga gn gc,.slice aa an ac,c7,.int .i64 rr,c9,c10,.int .i64 ld,c12,c13,.int .u8 cl] 39 (0,0)):=fun v hv=>by
   rw[hv.block _ hN,hbel2 _ hN];exact hbox
  have hbv:∀v,Below w1.heap.size w2 v->Below w.heap.size w v:=fun v hv=>hb0.trans (((Below.refl _ w1).alloc (AC _) _).trans (hw2▸hv)|>.mono (by omega));have hW2:∀v,Below w1.heap.size w2 v->Wd v:=fun v hv=>hWd v (hbv v hv);rw[<-hw2];clear hw2 hbel2;generalize hbb:w1.heap.size=b at*
  obtain⟨Cq,hq1,hq2⟩:∃Cq:World->Prop,(∀v,Cq v->WrI w2 b [] v)∧∀v,WrI w2 b [] v->Cq v:=⟨fun v=>WrI w2 b [] v,fun _ h=>h,fun _ h=>h⟩;refine Bg (C:=Cq) 10 mx (by kernel_rfl) (hq2 w2.drew hI0.drew) ?_;have hq:Hid (∀v,Cq v->WrI w2 b [] v):=hq1;have hcall:∀v,Cq v->Calls Tryz.prog 20 #[] v fun e w'=>e=.returned (.agg #[.string sCake,.string sGoods,.string sRent,.string sSettle])∧Cq w':=fun v hv=>(NS (hq1 v hv) hb2).mono fun e w' ⟨he,h⟩=>⟨he,hq2 _ h⟩;have hcl:Hid (∀v,Cq v->Calls Tryz.prog 20 #[] v fun e w'=>e=.returned (.agg #[.string sCake,.string sGoods,.string sRent,.string sSettle])∧Cq w'):=hcall;have hld:Hid (∀v,Cq v->v.cell? ⟨w.heap.size,0,none⟩=some (.int .u8 2)):=fun v hv=>by rw[Lib.cell_of_heap (hbox2 v (hq1 v hv).bel)];rfl
  have hhg:Hid (∀e,e<gn->w.cell? ⟨gb,goff+e,none⟩=some (.slice (ra e) (rn e) (rcp e))):=hg;have hhr:Hid (∀e,e<gn->∀j,j<rn e->w.cell? ⟨rb e,ro e+j,none⟩=some (.int .i64 (X e j))):=hr;have hha:Hid (∀j,j<an->w.cell? ⟨ab,ao+j,none⟩=some (.int .i64 (A j))):=ha;have hhra:Hid (∀e,e<gn->0<rn e->ra e=some ⟨rb e,ro e,none⟩∧rb e<w.heap.size):=hra;clear hq1 hq2 hcall hg hr ha hra hchk;dsimp only[List.take,List.drop];refine wpQuiet_step (fun K hK=>?_)
  go_simp
  refine⟨_,fun v hv=>rfl,hK _ ?_⟩;clear hK K;refine wpQuiet_step (fun K hK=>?_)
  go_simp
  refine⟨_,fun v hv=>rfl,hK _ ?_⟩;clear hK K;refine wpQuiet_step (fun K hK=>?_)
  go_simp
  refine⟨_,fun v hv=>rfl,hK _ ?_⟩;clear hK K;refine wpQuiet_step (fun K hK=>?_)
  go_simp
  refine⟨.agg #[.string sCake,.string sGoods,.string sRent,.string sSettle],fun v hv=>(show∀v,Cq v->Calls Tryz.prog 20 #[] v fun e w'=>e=.returned (.agg #[.string sCake,.string sGoods,.string sRent,.string sSettle])∧Cq w' from hcl) v hv,hK _ ?_⟩;clear hK K;refine wpQuiet_step (fun K hK=>?_)
  go_simp
  refine⟨_,fun v hv=>rfl,hK _ ?_⟩;clear hK K;refine wpQuiet_step (fun K hK=>?_)
  go_simp
  refine⟨.int .u8 2,fun v hv=>?_,hK _ ?_⟩
  ·rw[(show∀v,Cq v->v.cell? ⟨w.heap.size,0,none⟩=some (.int .u8 2)from hld) v hv];exact⟨rfl,rfl⟩
  clear hK K;refine wpQuiet_step (fun K hK=>?_)
  go_simp
  refine⟨_,fun v hv=>rfl,hK _ ?_⟩;clear hK K;refine wpQuiet_step (fun K hK=>?_)
  go_simp
  refine⟨.string sGoods,fun v hv=>?_,hK _ ?_⟩
  ·rw[YY v];exact⟨rfl,rfl⟩
  clear hK K;refine wpQuiet_step (fun K hK=>?_)
  go_simp
  refine⟨.string (sDocument++sGoods),fun v hv=>?_,hK _ ?_⟩
  ·rw[AL (show¬9223372036854775807<9+sGoods.size by have:sGoods.size=5:=rfl;omega)];exact⟨rfl,rfl⟩
  clear hK K;refine wpQuiet_step (fun K hK=>?_)
  go_simp
  refine⟨.string (sDocument++sGoods++⟨#[10]⟩),fun v hv=>?_,hK _ ?_⟩
  ·rw[AL (show¬9223372036854775807<sDocument.size+sGoods.size+1 by have:sGoods.size=5:=rfl;have:sDocument.size=9:=rfl;omega)];exact⟨rfl,rfl⟩
  clear hK K;refine wpQuiet_nil ?_;intro w3 h3;have h3':WrI w2 b [] w3:=(show∀v,Cq v->WrI w2 b [] v from hq) w3 h3;have hsz:([]:List UInt8).length+(sDocument++sGoods++⟨#[10]⟩).size<=140737488355328:=by decide
  have hS:[]++Ae (sDocument++sGoods++⟨#[10]⟩)=Ir sGoods:=by rw[Ee,Ee];rfl
  generalize sDocument++sGoods++⟨#[10]⟩=S at*
  clear hq hcl hld h3
  go_wp2_with (first|(go_at_call 19;refine(NP h3' hb2 S hsz).mono ?_))
  rintro e w4 ⟨rfl,h4⟩;rw[hS]at h4;clear hS hsz h3';have f0:w4.cell? ⟨w.heap.size,0,none⟩=some (.int .u8 2):=by rw[Lib.cell_of_heap (hbox2 w4 h4.bel)];rfl
  have f5:w4.cell? ⟨w.heap.size,5,none⟩=some (.slice ga gn gc):=by rw[Lib.cell_of_heap (hbox2 w4 h4.bel)];rfl
  go_wp2
  have hL:∀k,k<=gn->(Ir sGoods++F6 sValues X rn k).length<=40000000:=fun k hk=>by
   have h1:=Ie (word:=sValues) (by decide) hX k (fun e he=>hl2 e (by omega));have h2:(Ir sGoods).length=15:=rfl;have h3:k*30000<=1000*30000:=AH _ (by omega);rw[AG];omega
  have hold:∀v,Below b w2 v->∀p:Addr,p.block<w.heap.size->v.cell? p=w.cell? p:=fun v hv p hp=>(hbv v hv).cell hp;have hh1:Hid (∀v,Below b w2 v->∀p:Addr,p.block<w.heap.size->v.cell? p=w.cell? p):=hold;have hh2:Hid (∀v,Below b w2 v->v.heap[w.heap.size]? =some (.cells #[.int .u8 2,c1,c2,.int .u8 pc,c4,.slice ga gn gc,.slice aa an ac,c7,.int .i64 rr,c9,c10,.int .i64 ld,c12,c13,.int .u8 cl] 39 (0,0))):=hbox2;clear hold hbox2 f0 f5
  go_loopw [43] (fun i wr=>∃k:Nat,i=.int .i64 k∧k<=gn∧WrI w2 b (Ir sGoods++F6 sValues X rn k) wr) (fun i _=>gn-(RowKit.intOf i).toNat)
  case atStart=>
   exact⟨0,rfl,Nat.zero_le _,by simpa [F6]using h4⟩
  case round=>
   obtain⟨k,rfl,hk,h5⟩:=hrel;by_cases hp:k<gn
   ·have ha':=hga (by omega);have hgb':=hgb (by omega);subst ha';have d0:wr.cell? ⟨gb,goff+k,none⟩=some (.slice (ra k) (rn k) (rcp k)):=by
     rw[(show∀v,Below b w2 v->∀p:Addr,p.block<w.heap.size->v.cell? p=w.cell? p from hh1) wr h5.bel ⟨gb,goff+k,none⟩ hgb'];exact(show∀e,e<gn->w.cell? ⟨gb,goff+e,none⟩=some (.slice (ra e) (rn e) (rcp e))from hhg) k hp
    have e1:0<rn k->ra k=some ⟨rb k,ro k,none⟩:=fun h=>((show∀e,e<gn->0<rn e->ra e=some ⟨rb e,ro e,none⟩∧rb e<w.heap.size from hhra) k hp h).1;have e2:0<rn k->rb k<b:=fun h=>Nat.lt_trans ((show∀e,e<gn->0<rn e->ra e=some ⟨rb e,ro e,none⟩∧rb e<w.heap.size from hhra) k hp h).2 (by omega);have e3:Hid (∀j,j<rn k->w2.cell? ⟨rb k,ro k+j,none⟩=some (.int .i64 (X k j))):=fun j hj=>by
     rw[(show∀v,Below b w2 v->∀p:Addr,p.block<w.heap.size->v.cell? p=w.cell? p from hh1) w2 (Below.refl _ _) ⟨rb k,ro k+j,none⟩ ((show∀e,e<gn->0<rn e->ra e=some ⟨rb e,ro e,none⟩∧rb e<w.heap.size from hhra) k hp (by omega)).2];exact(show∀e,e<gn->∀j,j<rn e->w.cell? ⟨rb e,ro e+j,none⟩=some (.int .i64 (X e j))from hhr) k hp j hj
    have e4:(Ir sGoods++F6 sValues X rn k).length+sValues.size+rn k*22<=1000000000000:=by
     have h1:=hL k (by omega);have h2:=hl2 k hp;have h3:sValues.size=6:=rfl;omega
    go_wp2_with (first|(go_at_call 22;refine(Iw h5 hW2 hb2 sValues (ra k) (rb k) (ro k) (rn k) (rcp k) (X k) e1 (hX k) e2 e3 e4).mono ?_;rintro e w6 ⟨rfl,h6⟩))
    go_wp2
    go_roundw
    case rel=>
     refine⟨k+1,by go_num,by omega,?_⟩;rw[show F6 sValues X rn (k+1)=F6 sValues X rn k++(Ae sValues++BR (X k) (rn k)++[10])from rfl];rw[show Ir sGoods++(F6 sValues X rn k++(Ae sValues++BR (X k) (rn k)++[10]))=Ir sGoods++F6 sValues X rn k++Ae sValues++BR (X k) (rn k)++[10] by simp only[List.append_assoc]];exact h6
    case measure=>
     simp[RowKit.intOf];omega
   ·have hkn:k=gn:=by omega
    subst hkn;have f6:wr.cell? ⟨w.heap.size,6,none⟩=some (.slice aa an ac):=by
     rw[Lib.cell_of_heap ((show∀v,Below b w2 v->v.heap[w.heap.size]? =some (.cells #[.int .u8 2,c1,c2,.int .u8 pc,c4,.slice ga k gc,.slice aa an ac,c7,.int .i64 rr,c9,c10,.int .i64 ld,c12,c13,.int .u8 cl] 39 (0,0))from hh2) wr h5.bel)];rfl
    have e1:0<an->aa=some ⟨ab,ao,none⟩:=fun h=>(haa h).1;have e2:0<an->ab<b:=fun h=>Nat.lt_trans (haa h).2 (by omega);have e3:Hid (∀j,j<an->w2.cell? ⟨ab,ao+j,none⟩=some (.int .i64 (A j))):=fun j hj=>by
     rw[(show∀v,Below b w2 v->∀p:Addr,p.block<w.heap.size->v.cell? p=w.cell? p from hh1) w2 (Below.refl _ _) ⟨ab,ao+j,none⟩ (haa (by omega)).2];exact(show∀j,j<an->w.cell? ⟨ab,ao+j,none⟩=some (.int .i64 (A j))from hha) j hj
    have e4:(Ir sGoods++F6 sValues X rn k).length+sGive.size+an*22<=1000000000000:=by
     have h1:=hL k (by omega);have h3:sGive.size=4:=rfl;omega
    have hbx:Hid (∀v L,WrI w2 b L v->v.cell? ⟨w.heap.size,14,none⟩=some (.int .u8 cl)∧v.cell? ⟨w.heap.size,3,none⟩=some (.int .u8 pc)):=fun v L hv=>by
     rw[Lib.cell_of_heap ((show∀v,Below b w2 v->v.heap[w.heap.size]? =some (.cells #[.int .u8 2,c1,c2,.int .u8 pc,c4,.slice ga k gc,.slice aa an ac,c7,.int .i64 rr,c9,c10,.int .i64 ld,c12,c13,.int .u8 cl] 39 (0,0))from hh2) v hv.bel),Lib.cell_of_heap ((show∀v,Below b w2 v->v.heap[w.heap.size]? =some (.cells #[.int .u8 2,c1,c2,.int .u8 pc,c4,.slice ga k gc,.slice aa an ac,c7,.int .i64 rr,c9,c10,.int .i64 ld,c12,c13,.int .u8 cl] 39 (0,0))from hh2) v hv.bel)];exact⟨rfl,rfl⟩
    have i1:∀j:Nat,iR ((fun _:Nat=>cl+pc) j)=true:=fun j=>iR_iff.2 ⟨by dsimp only;omega,by dsimp only;omega⟩;have i2:Hid (∀j,j<1->(#[Value.int .i64 (cl+pc)]:Array Value)[j]? =some (.int .i64 ((fun _:Nat=>cl+pc) j))):=fun j hj=>by
     have:j=0:=by omega
     subst this;rfl
    have i3:(Ir sGoods++F6 sValues X rn k++Ae sGive++BR A an++[10]).length+sClaims.size+1*22<=1000000000000:=by
     have h1:=Fv hA an;have h2:=hL k (by omega);have h3:sClaims.size=6:=rfl;have h4:(Ae sGive).length=4:=rfl;rw[AG,AG,AG,List.length_singleton];omega
    clear hL;have f0:Hid (b<w2.heap.size):=hb3;clear hb3
    go_wp2_with (first|(go_at_call 22;refine(Iw h5 hW2 hb2 sGive aa ab ao an ac A e1 hA e2 e3 e4).mono ?_))
    rintro e w6 rfl h6;clear e1 e2 e3 e4;obtain⟨L6,hL6⟩:∃L6,L6=Ir sGoods++(F6 sValues X rn k++(Ae sGive++(BR A an++[10]))):=⟨_,rfl⟩;rw[<-hL6]at h6;have hT2:Hid (L6++Ae sClaims++BR (fun _=>cl+pc) 1++[10]=goT X rn k A an (cl+pc)):=by
     show _=_;rw[hL6];simp only[goT,Zn,List.append_assoc]
    have i3':L6.length+sClaims.size+1*22<=1000000000000:=by
     rw[hL6];simp only[List.append_assoc]at i3;exact i3
    clear i3 hL6;obtain⟨f14,f3⟩:=(show∀v L,WrI w2 b L v->v.cell? ⟨w.heap.size,14,none⟩=some (.int .u8 cl)∧v.cell? ⟨w.heap.size,3,none⟩=some (.int .u8 pc)from hbx) w6 _ h6;have i4:w6.heap.size≠b:=by have:=h6.bel.size;have h:b<w2.heap.size:=f0;omega
    have h6a:=h6.alloc hb2 (.cells #[.int .i64 (cl+pc)] 3);have h6n:Hid ((w6.alloc (.cells #[.int .i64 (cl+pc)] 3)).heap[w6.heap.size]? =some (.cells #[.int .i64 (cl+pc)] 3 (0,0))):=BG w6 _
    go_wp2_with (first|(go_at_call 22;refine(GZ h6a hW2 hb2 sClaims w6.heap.size 1 1 (fun _=>cl+pc) #[.int .i64 (cl+pc)] (0,0) i1 i4 h6n i2 i3').mono ?_))
    rintro e w7 ⟨rfl,h7⟩;obtain⟨T,hT⟩:∃T,T=L6++Ae sClaims++BR (fun _=>cl+pc) 1++[10]:=⟨_,rfl⟩;rw[<-hT]at h7;have hT3:Hid (goT X rn k A an (cl+pc)=T):=by
     show _=_;rw[hT];exact(show L6++Ae sClaims++BR (fun _=>cl+pc) 1++[10]=goT X rn k A an (cl+pc)from hT2).symm
    have hne:T≠[]:=by rw[hT];simp
    have hbz:Below w.heap.size w w7:=hbv w7 h7.bel;clear hT hT2 f14 f3 h6 h6a h6n i1 i2 i3' i4 hbx
    go_wp2_with (first|(go_at_call 23;refine(Rq b b T _ h7.bld).mono ?_))
    rintro e w8 ⟨rfl,rfl⟩;have hfin:Hid (∀v,Below b w8 v->Below w.heap.size w v):=fun v hv=>hbz.trans (hv.mono (by omega));by_cases hbig:60000<T.length
    ·have hdb:decide (60000<T.length)=true:=A4 hbig;have hd2:Hid (decide (60000<T.length)=true):=hdb;clear hdb
     go_wp2
     go_ret2
     rw[show goT X rn k A an (cl+pc)=T from hT3];unfold P9 Me;rw[show decide (60000<T.length)=true from hd2];exact⟨rfl,hbz⟩
    ·have hd2:Hid (decide (60000<T.length)=false):=AB hbig
     go_wp2_with (first|(go_at_call 24;refine(NH b b T _ h7.bld hne).mono ?_))
     rintro e w9 ⟨rfl,h9⟩
     go_wp2
     go_ret2
     rw[show goT X rn k A an (cl+pc)=T from hT3];unfold P9 Me;rw[show decide (60000<T.length)=false from hd2];exact⟨rfl,(show∀v,Below b w8 v->Below w.heap.size w v from hfin) w9 h9⟩
end Go.Proofs.YtnljjjghpgdmoaaGreatDoor

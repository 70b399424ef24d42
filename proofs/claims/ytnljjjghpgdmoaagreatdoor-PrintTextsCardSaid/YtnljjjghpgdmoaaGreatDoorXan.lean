/- A part of the proof of PrintTexts. No conditions. -/
import Derived.Test.YtnljjjghpgdmoaaGreatDoorXam
set_option linter.all false
namespace Go.Proofs.YtnljjjghpgdmoaaGreatDoor
open Go.Ev
set_option maxRecDepth 100000
def kK:Dl:={τ:=[.v (.sl 0),.v (.sl 1)]++pu 3++[.v (.int .i64)]++pu 20,saved:=[[]],mem:=[.row Qw false,.row Qw false]}
structure A_lg3 where
 n:Nat
 n_2:Nat
 j:Int
 r:Row
 s:Row
def uF(its:List It):Option A_lg3:=match its with|[.n n,.n n_2,.i j,.r r,.r s]=>some ⟨n,n_2,j,r,s⟩|_=>none
def uN(x:A_lg3):Bool:=x.j=0∧x.n_2=x.n∧x.n<=1000000
def c_lg3_iff{x:A_lg3}:=@Bl _ uN _ _ rfl x
def lg3:ScanL A_lg3:=⟨101,4,[0,1,5],[4],kK,uF,fun x j=>[.n x.n,.n x.n,.i (j:Int),.r x.r,.r x.s],fun x=>x.n,uN,fun x j=> !(x.r.I j 0==x.s.I j 0&&(x.r.I j 1==x.s.I j 1&&true)&&(x.r.I j 2==x.s.I j 2&&(x.r.I j 3==x.s.I j 3&&true)&&true)),fun x j K=>K .ret ⟨us 4++[.bool false]++us 21,[[]],[]⟩,fun x K=>K (.exit 0) ⟨us 26,[[]],[]⟩⟩
noncomputable def Cg3:Cx:=AP Tryz.prog fns [] [lg3.C]
def iT:Dl:={τ:=[.v (.sl 0),.v (.sl 1)]++pu 3++[.v (.int .i64)]++pu 20,saved:=[[]],mem:=[.row Ht false,.row Ht false]}
structure A_lgp where
 n:Nat
 n_2:Nat
 j:Int
 r:Row
 s:Row
def oG(its:List It):Option A_lgp:=match its with|[.n n,.n n_2,.i j,.r r,.r s]=>some ⟨n,n_2,j,r,s⟩|_=>none
def tX(x:A_lgp):Bool:=x.j=0∧x.n_2=x.n∧x.n<=1000000
def c_lgp_iff{x:A_lgp}:=@Bl _ tX _ _ rfl x
def lgp:ScanL A_lgp:=⟨57,4,[0,1,5],[4],iT,oG,fun x j=>[.n x.n,.n x.n,.i (j:Int),.r x.r,.r x.s],fun x=>x.n,tX,fun x j=> !(x.r.I j 0==x.s.I j 0&&(x.r.I j 1==x.s.I j 1&&(x.r.I j 2==x.s.I j 2&&true))),fun x j K=>K .ret ⟨us 4++[.bool false]++us 21,[[]],[]⟩,fun x K=>K (.exit 0) ⟨us 26,[[]],[]⟩⟩
noncomputable def Cgp:Cx:=AP Tryz.prog fns [] [lgp.C]
def oV:Dl:={τ:=[.v (.sl 0),.v (.sl 1)]++pu 3++[.v (.int .i64)]++pu 20,saved:=[[]],mem:=[.row Ar false,.row Ar false]}
structure A_lgs where
 n:Nat
 n_2:Nat
 j:Int
 r:Row
 s:Row
def jM(its:List It):Option A_lgs:=match its with|[.n n,.n n_2,.i j,.r r,.r s]=>some ⟨n,n_2,j,r,s⟩|_=>none
def eH(x:A_lgs):Bool:=x.j=0∧x.n_2=x.n∧x.n<=1000000
def c_lgs_iff{x:A_lgs}:=@Bl _ eH _ _ rfl x
def lgs:ScanL A_lgs:=⟨56,4,[0,1,5],[4],oV,jM,fun x j=>[.n x.n,.n x.n,.i (j:Int),.r x.r,.r x.s],fun x=>x.n,eH,fun x j=>x.r.I j 0 !=x.s.I j 0,fun x j K=>K .ret ⟨us 4++[.bool false]++us 21,[[]],[]⟩,fun x K=>K (.exit 0) ⟨us 26,[[]],[]⟩⟩
noncomputable def Cgs:Cx:=AP Tryz.prog fns [] [lgs.C]
def oP:Dl:={τ:=pu 2++[.v (.c (.pointer (some ⟨0,0,some 0⟩))),.v (.c (.pointer (some ⟨1,0,some 0⟩)))]++pu 1++[.v (.int .i64)]++pu 60,saved:=[[]],mem:=[.box [.v (.int .i64),.v (.sl 2),.v (.sl 3)],.box [.v (.int .i64),.v (.sl 4),.v (.sl 5)],.row Ar false,.row Ar false,.row Ar false,.row Ar false]}
structure A_lc4 where
 j:Int
 l:Int
 pn:Nat
 qn:Nat
 l2:Int
 pn_2:Nat
 qn_2:Nat
 p:Row
 qq:Row
 r:Row
 s:Row
def tV(its:List It):Option A_lc4:=match its with|[.i j,.i l,.n pn,.n qn,.i l2,.n pn_2,.n qn_2,.r p,.r qq,.r r,.r s]=>some ⟨j,l,pn,qn,l2,pn_2,qn_2,p,qq,r,s⟩|_=>none
def dY(x:A_lc4):Bool:=x.j=0∧x.pn_2=x.pn∧x.qn_2=x.qn∧x.pn<=1000000
def c_lc4_iff{x:A_lc4}:=@Bl _ dY _ _ rfl x
def lc4:ScanL A_lc4:=⟨52,4,[2,3,5],[2,3,4],oP,tV,fun x j=>[.i (j:Int),.i x.l,.n x.pn,.n x.qn,.i x.l2,.n x.pn,.n x.qn,.r x.p,.r x.qq,.r x.r,.r x.s],fun x=>x.pn,dY,fun x j=>x.p.I j 0 !=x.r.I j 0,fun x j K=>K .ret ⟨us 2++[.pointer (some ⟨0,0,some 0⟩),.pointer (some ⟨1,0,some 0⟩),.bool false]++us 61,[[]],[some (.box [i64 x.l,S_ 2 0 x.pn,S_ 3 0 x.qn]),some (.box [i64 x.l2,S_ 4 0 x.pn,S_ 5 0 x.qn]),Au Ar x.p,Au Ar x.qq,Au Ar x.r,Au Ar x.s]⟩,fun x K=>K (.exit 0) ⟨us 2++[.pointer (some ⟨0,0,some 0⟩),.pointer (some ⟨1,0,some 0⟩)]++us 62,[[]],[some (.box [i64 x.l,S_ 2 0 x.pn,S_ 3 0 x.qn]),some (.box [i64 x.l2,S_ 4 0 x.pn,S_ 5 0 x.qn]),Au Ar x.p,Au Ar x.qq,Au Ar x.r,Au Ar x.s]⟩⟩
def rP:Dl:={τ:=pu 2++[.v (.c (.pointer (some ⟨0,0,some 0⟩))),.v (.c (.pointer (some ⟨1,0,some 0⟩)))]++pu 2++[.v (.int .i64)]++pu 59,saved:=[[]],mem:=[.box [.v (.int .i64),.v (.sl 2),.v (.sl 3)],.box [.v (.int .i64),.v (.sl 4),.v (.sl 5)],.row Ar false,.row Ar false,.row Ar false,.row Ar false]}
structure A_lc9 where
 j:Int
 l:Int
 pn:Nat
 qn:Nat
 l2:Int
 pn_2:Nat
 qn_2:Nat
 p:Row
 qq:Row
 r:Row
 s:Row
def nY(its:List It):Option A_lc9:=match its with|[.i j,.i l,.n pn,.n qn,.i l2,.n pn_2,.n qn_2,.r p,.r qq,.r r,.r s]=>some ⟨j,l,pn,qn,l2,pn_2,qn_2,p,qq,r,s⟩|_=>none
def qQ(x:A_lc9):Bool:=x.j=0∧x.pn_2=x.pn∧x.qn_2=x.qn∧x.qn<=1000000
def c_lc9_iff{x:A_lc9}:=@Bl _ qQ _ _ rfl x
def lc9:ScanL A_lc9:=⟨52,9,[2,3,6],[4],rP,nY,fun x j=>[.i (j:Int),.i x.l,.n x.pn,.n x.qn,.i x.l2,.n x.pn,.n x.qn,.r x.p,.r x.qq,.r x.r,.r x.s],fun x=>x.qn,qQ,fun x j=>x.qq.I j 0 !=x.s.I j 0,fun x j K=>K .ret ⟨us 4++[.bool false]++us 61,[[]],[]⟩,fun x K=>K (.exit 2) ⟨us 66,[[]],[]⟩⟩
noncomputable def Cg2:Cx:=AP Tryz.prog fns [] [lc4.C,lc9.C]
def Af6(R:St->OD)(K:X->St->OD)(q n n_2:Nat)(j:Int)(r s:Row):Ak Cg3 101 4 q (bst kK [.n n,.n n_2,.i j,.r r,.r s]) (BF [0,1,5] (some [4]) R K)=br (j<(n:Int)) (br (0<=j&&j<(n:Int)) (br (0<=j&&j<(n_2:Int)) (br (!(r.I (0+j.toNat) 0==s.I (0+j.toNat) 0&&(r.I (0+j.toNat) 1==s.I (0+j.toNat) 1&&true)&&(r.I (0+j.toNat) 2==s.I (0+j.toNat) 2&&(r.I (0+j.toNat) 3==s.I (0+j.toNat) 3&&true)&&true))) (lg3.Kb ⟨n,n_2,j,r,s⟩ 0 K) (R (bst kK [.n n,.n n_2,.i (IntKind.i64.wrap (j+1)),.r r,.r s]))) none) none) (lg3.Ke ⟨n,n_2,j,r,s⟩ K):=k_
def Ada(R:St->OD)(K:X->St->OD)(q n n_2:Nat)(j:Int)(r s:Row):Ak Cgp 57 4 q (bst iT [.n n,.n n_2,.i j,.r r,.r s]) (BF [0,1,5] (some [4]) R K)=br (j<(n:Int)) (br (0<=j&&j<(n:Int)) (br (0<=j&&j<(n_2:Int)) (br (!(r.I (0+j.toNat) 0==s.I (0+j.toNat) 0&&(r.I (0+j.toNat) 1==s.I (0+j.toNat) 1&&(r.I (0+j.toNat) 2==s.I (0+j.toNat) 2&&true)))) (lgp.Kb ⟨n,n_2,j,r,s⟩ 0 K) (R (bst iT [.n n,.n n_2,.i (IntKind.i64.wrap (j+1)),.r r,.r s]))) none) none) (lgp.Ke ⟨n,n_2,j,r,s⟩ K):=k_
def Af1(R:St->OD)(K:X->St->OD)(q n n_2:Nat)(j:Int)(r s:Row):Ak Cgs 56 4 q (bst oV [.n n,.n n_2,.i j,.r r,.r s]) (BF [0,1,5] (some [4]) R K)=br (j<(n:Int)) (br (0<=j&&j<(n:Int)) (br (0<=j&&j<(n_2:Int)) (br (r.I (0+j.toNat) 0 !=s.I (0+j.toNat) 0) (lgs.Kb ⟨n,n_2,j,r,s⟩ 0 K) (R (bst oV [.n n,.n n_2,.i (IntKind.i64.wrap (j+1)),.r r,.r s]))) none) none) (lgs.Ke ⟨n,n_2,j,r,s⟩ K):=k_
def Afk(R:St->OD)(K:X->St->OD)(q:Nat)(j l:Int)(pn qn:Nat)(l2:Int)(pn_2 qn_2:Nat)(p qq r s:Row):Ak Cg2 52 4 q (bst oP [.i j,.i l,.n pn,.n qn,.i l2,.n pn_2,.n qn_2,.r p,.r qq,.r r,.r s]) (BF [2,3,5] (some [2,3,4]) R K)=br (j<(pn:Int)) (br (0<=j&&j<(pn:Int)) (br (0<=j&&j<(pn_2:Int)) (br (p.I (0+j.toNat) 0 !=r.I (0+j.toNat) 0) (K .ret ⟨us 2++[.pointer (some ⟨0,0,some 0⟩),.pointer (some ⟨1,0,some 0⟩),.bool false]++us 61,[[]],[some (.box [i64 l,S_ 2 0 pn,S_ 3 0 qn]),some (.box [i64 l2,S_ 4 0 pn_2,S_ 5 0 qn_2]),Au Ar p,Au Ar qq,Au Ar r,Au Ar s]⟩) (R (bst oP [.i (IntKind.i64.wrap (j+1)),.i l,.n pn,.n qn,.i l2,.n pn_2,.n qn_2,.r p,.r qq,.r r,.r s]))) none) none) (K (.exit 0) ⟨us 2++[.pointer (some ⟨0,0,some 0⟩),.pointer (some ⟨1,0,some 0⟩)]++us 62,[[]],[some (.box [i64 l,S_ 2 0 pn,S_ 3 0 qn]),some (.box [i64 l2,S_ 4 0 pn_2,S_ 5 0 qn_2]),Au Ar p,Au Ar qq,Au Ar r,Au Ar s]⟩):=k_
def Ae6(R:St->OD)(K:X->St->OD)(q:Nat)(j l:Int)(pn qn:Nat)(l2:Int)(pn_2 qn_2:Nat)(p qq r s:Row):Ak Cg2 52 9 q (bst rP [.i j,.i l,.n pn,.n qn,.i l2,.n pn_2,.n qn_2,.r p,.r qq,.r r,.r s]) (BF [2,3,6] (some [4]) R K)=br (j<(qn:Int)) (br (0<=j&&j<(qn:Int)) (br (0<=j&&j<(qn_2:Int)) (br (qq.I (0+j.toNat) 0 !=s.I (0+j.toNat) 0) (K .ret ⟨us 4++[.bool false]++us 61,[[]],[]⟩) (R (bst rP [.i (IntKind.i64.wrap (j+1)),.i l,.n pn,.n qn,.i l2,.n pn_2,.n qn_2,.r p,.r qq,.r r,.r s]))) none) none) (K (.exit 2) ⟨us 66,[[]],[]⟩):=k_
def ug3(r s:Row):BH Cg3 6 101 [.slice Qw r,.slice Qw s]=br ((r.n:Int) !=(s.n:Int)) (some [.v (.bool false)]) (br (uN (⟨r.n,s.n,0,r,s⟩:A_lg3)) (br (Ag (fun j=> !(r.I j 0==s.I j 0&&(r.I j 1==s.I j 1&&true)&&(r.I j 2==s.I j 2&&(r.I j 3==s.I j 3&&true)&&true))) r.n 0) (some [.v (.bool false)]) (some [.v (.bool true)])) none):=k_
def ugp(r s:Row):BH Cgp 6 57 [.slice Ht r,.slice Ht s]=br ((r.n:Int) !=(s.n:Int)) (some [.v (.bool false)]) (br (tX (⟨r.n,s.n,0,r,s⟩:A_lgp)) (br (Ag (fun j=> !(r.I j 0==s.I j 0&&(r.I j 1==s.I j 1&&(r.I j 2==s.I j 2&&true)))) r.n 0) (some [.v (.bool false)]) (some [.v (.bool true)])) none):=k_
def ugs(r s:Row):BH Cgs 6 56 [.slice Ar r,.slice Ar s]=br ((r.n:Int) !=(s.n:Int)) (some [.v (.bool false)]) (br (eH (⟨r.n,s.n,0,r,s⟩:A_lgs)) (br (Ag (fun j=>r.I j 0 !=s.I j 0) r.n 0) (some [.v (.bool false)]) (some [.v (.bool true)])) none):=k_
def ug2(l l2:Int)(p q r s:Row):BH Cg2 6 52 [.agg [.v (i64 l),.slice Ar p,.slice Ar q],.agg [.v (i64 l2),.slice Ar r,.slice Ar s]]=br (l !=l2) (some [.v (.bool false)]) (br ((p.n:Int) !=(r.n:Int)) (some [.v (.bool false)]) (br ((q.n:Int) !=(s.n:Int)) (some [.v (.bool false)]) (br (dY (⟨0,l,p.n,q.n,l2,r.n,s.n,p,q,r,s⟩:A_lc4)) (br (Ag (fun j=>p.I j 0 !=r.I j 0) p.n 0) (some [.v (.bool false)]) (br (qQ (⟨0,l,p.n,q.n,l2,p.n,q.n,p,q,r,s⟩:A_lc9)) (br (Ag (fun j=>q.I j 0 !=s.I j 0) q.n 0) (some [.v (.bool false)]) (some [.v (.bool true)])) none)) none))):=k_
def Akw:Ah Cg3 lg3.C:=lg3.ok k_
 (fun its x h hc=>by
  replace h:uF its=some x:=h;unfold uF at h;split at h
  ·cases h;have h:=c_lg3_iff.1 hc;dsimp only at h;obtain⟨rfl,rfl,_⟩:=h;rfl
  ·cases h)
 (fun x hc=>by have:=c_lg3_iff.1 hc;show x.n<2^64;omega)
 (fun q ⟨n,n_2,j0,r,s⟩ j hc hi R K=>by
  obtain⟨h1,h2,h3⟩:=c_lg3_iff.1 hc;dsimp only at*
  replace hi:j<n:=hi;refine(Af6 R K q n n ((j:Int)) r s).trans ?_;rw[A9 j,AE j,gd j n hi,DX j n hi,Eg o_];rfl)
 (fun q ⟨n,n_2,j0,r,s⟩ hc R K=>by
  obtain⟨h1,h2,h3⟩:=c_lg3_iff.1 hc;dsimp only at*
  refine(Af6 R K q n n ((n:Int)) r s).trans ?_;rw[EU n];rfl)
def Agl:Ah Cgp lgp.C:=lgp.ok k_
 (fun its x h hc=>by
  replace h:oG its=some x:=h;unfold oG at h;split at h
  ·cases h;have h:=c_lgp_iff.1 hc;dsimp only at h;obtain⟨rfl,rfl,_⟩:=h;rfl
  ·cases h)
 (fun x hc=>by have:=c_lgp_iff.1 hc;show x.n<2^64;omega)
 (fun q ⟨n,n_2,j0,r,s⟩ j hc hi R K=>by
  obtain⟨h1,h2,h3⟩:=c_lgp_iff.1 hc;dsimp only at*
  replace hi:j<n:=hi;refine(Ada R K q n n ((j:Int)) r s).trans ?_;rw[A9 j,AE j,gd j n hi,DX j n hi,Eg o_];rfl)
 (fun q ⟨n,n_2,j0,r,s⟩ hc R K=>by
  obtain⟨h1,h2,h3⟩:=c_lgp_iff.1 hc;dsimp only at*
  refine(Ada R K q n n ((n:Int)) r s).trans ?_;rw[EU n];rfl)
def Ajg:Ah Cgs lgs.C:=lgs.ok k_
 (fun its x h hc=>by
  replace h:jM its=some x:=h;unfold jM at h;split at h
  ·cases h;have h:=c_lgs_iff.1 hc;dsimp only at h;obtain⟨rfl,rfl,_⟩:=h;rfl
  ·cases h)
 (fun x hc=>by have:=c_lgs_iff.1 hc;show x.n<2^64;omega)
 (fun q ⟨n,n_2,j0,r,s⟩ j hc hi R K=>by
  obtain⟨h1,h2,h3⟩:=c_lgs_iff.1 hc;dsimp only at*
  replace hi:j<n:=hi;refine(Af1 R K q n n ((j:Int)) r s).trans ?_;rw[A9 j,AE j,gd j n hi,DX j n hi,Eg o_];rfl)
 (fun q ⟨n,n_2,j0,r,s⟩ hc R K=>by
  obtain⟨h1,h2,h3⟩:=c_lgs_iff.1 hc;dsimp only at*
  refine(Af1 R K q n n ((n:Int)) r s).trans ?_;rw[EU n];rfl)
def Ah1:Ah Cg2 lc4.C:=lc4.ok k_
 (fun its x h hc=>by
  replace h:tV its=some x:=h;unfold tV at h;split at h
  ·cases h;have h:=c_lc4_iff.1 hc;dsimp only at h;obtain⟨rfl,rfl,rfl,_⟩:=h;rfl
  ·cases h)
 (fun x hc=>by have:=c_lc4_iff.1 hc;show x.pn<2^64;omega)
 (fun q ⟨j0,l,pn,qn,l2,pn_2,qn_2,p,qq,r,s⟩ j hc hi R K=>by
  obtain⟨h1,h2,h3,h4⟩:=c_lc4_iff.1 hc;dsimp only at*
  replace hi:j<pn:=hi;refine(Afk R K q ((j:Int)) l pn qn l2 pn qn p qq r s).trans ?_;rw[A9 j,AE j,gd j pn hi,DX j pn hi,Eg o_];rfl)
 (fun q ⟨j0,l,pn,qn,l2,pn_2,qn_2,p,qq,r,s⟩ hc R K=>by
  obtain⟨h1,h2,h3,h4⟩:=c_lc4_iff.1 hc;dsimp only at*
  refine(Afk R K q ((pn:Int)) l pn qn l2 pn qn p qq r s).trans ?_;rw[EU pn];rfl)
def Ajw:Ah Cg2 lc9.C:=lc9.ok k_
 (fun its x h hc=>by
  replace h:nY its=some x:=h;unfold nY at h;split at h
  ·cases h;have h:=c_lc9_iff.1 hc;dsimp only at h;obtain⟨rfl,rfl,rfl,_⟩:=h;rfl
  ·cases h)
 (fun x hc=>by have:=c_lc9_iff.1 hc;show x.qn<2^64;omega)
 (fun q ⟨j0,l,pn,qn,l2,pn_2,qn_2,p,qq,r,s⟩ j hc hi R K=>by
  obtain⟨h1,h2,h3,h4⟩:=c_lc9_iff.1 hc;dsimp only at*
  replace hi:j<qn:=hi;refine(Ae6 R K q ((j:Int)) l pn qn l2 pn qn p qq r s).trans ?_;rw[A9 j,AE j,gd j qn hi,DX j qn hi,Eg o_];rfl)
 (fun q ⟨j0,l,pn,qn,l2,pn_2,qn_2,p,qq,r,s⟩ hc R K=>by
  obtain⟨h1,h2,h3,h4⟩:=c_lc9_iff.1 hc;dsimp only at*
  refine(Ae6 R K q ((qn:Int)) l pn qn l2 pn qn p qq r s).trans ?_;rw[EU qn];rfl)
def Hu(m:Nat)(r s:Row):Prop:=r.n=s.n∧∀j,j<r.n->∀c,c<m->r.I j c=s.I j c
instance(m:Nat)(r s:Row):Decidable (Hu m r s):=by unfold Hu;infer_instance
def zQ{a b:Nat}(h:a=b):((a:Int) !=(b:Int))=false:=by rw[h];simp
def EZ{a b:Int}(h:a=b):(a !=b)=false:=by rw[h];simp
def sZ:FD
 |[.slice [.int .i64,.int .i64,.int .i64,.int .i64] r,.slice [.int .i64,.int .i64,.int .i64,.int .i64] s]=>some (r.n<=1000000∧Hu 4 r s,[.v (.bool true)])
 |_=>none
def Ag2:Be Cg3:=Aj enter mixed AX (Aw Akw AX)
def Akk:Den Tryz.prog 101 sZ:=Af Ag2 fun ds rs h=>by
 unfold sZ at h;split at h
 ·rename_i r s;simp only[A5,A6]at h;obtain⟨h0,rfl⟩:=h;obtain⟨h1,h2,h3⟩:=AD h0;refine(ug3 r s).trans ?_;rw[zQ h2,Ac,c_lg3_iff.2 ⟨rfl,h2.symm,h1⟩,Aa,anyF_false.2 fun j _ hj=>?_]
  ·rfl
  ·have hj':j<r.n:=o_;show(!(r.I j 0==s.I j 0&&(r.I j 1==s.I j 1&&true)&&(r.I j 2==s.I j 2&&(r.I j 3==s.I j 3&&true)&&true)))=false;rw[h3 j hj' 0 d_,h3 j hj' 1 d_,h3 j hj' 2 d_,h3 j hj' 3 d_];simp
 ·cases h
def xR:FD
 |[.slice [.int .i64,.int .i64,.int .i64] r,.slice [.int .i64,.int .i64,.int .i64] s]=>some (r.n<=1000000∧Hu 3 r s,[.v (.bool true)])
 |_=>none
def Akg:Be Cgp:=Aj enter mixed AX (Aw Agl AX)
def Ahj:Den Tryz.prog 57 xR:=Af Akg fun ds rs h=>by
 unfold xR at h;split at h
 ·rename_i r s;simp only[A5,A6]at h;obtain⟨h0,rfl⟩:=h;obtain⟨h1,h2,h3⟩:=AD h0;refine(ugp r s).trans ?_;rw[zQ h2,Ac,c_lgp_iff.2 ⟨rfl,h2.symm,h1⟩,Aa,anyF_false.2 fun j _ hj=>?_]
  ·rfl
  ·have hj':j<r.n:=o_;show(!(r.I j 0==s.I j 0&&(r.I j 1==s.I j 1&&(r.I j 2==s.I j 2&&true))))=false;rw[h3 j hj' 0 d_,h3 j hj' 1 d_,h3 j hj' 2 d_];simp
 ·cases h
def qK:FD
 |[.slice [.int .i64] r,.slice [.int .i64] s]=>some (r.n<=1000000∧Hu 1 r s,[.v (.bool true)])
 |_=>none
def Ajs:Be Cgs:=Aj enter mixed AX (Aw Ajg AX)
def Aft:Den Tryz.prog 56 qK:=Af Ajs fun ds rs h=>by
 unfold qK at h;split at h
 ·rename_i r s;simp only[A5,A6]at h;obtain⟨h0,rfl⟩:=h;obtain⟨h1,h2,h3⟩:=AD h0;refine(ugs r s).trans ?_;rw[zQ h2,Ac,c_lgs_iff.2 ⟨rfl,h2.symm,h1⟩,Aa,anyF_false.2 fun j _ hj=>?_]
  ·rfl
  ·have hj':j<r.n:=o_;show(r.I j 0 !=s.I j 0)=false;rw[h3 j hj' 0 d_];simp
 ·cases h
def rO:FD
 |[.agg [.v (.int .i64 l),.slice [.int .i64] p,.slice [.int .i64] q],.agg [.v (.int .i64 l2),.slice [.int .i64] r,.slice [.int .i64] s]]=>some (l=l2∧p.n<=1000000∧q.n<=1000000∧Hu 1 p r∧Hu 1 q s,[.v (.bool true)])
 |_=>none
def Akb:Be Cg2:=Aj enter mixed AX (Aw Ah1<|Aw Ajw AX)
def Ah6:Den Tryz.prog 52 rO:=Af Akb fun ds rs h=>by
 unfold rO at h;split at h
 ·rename_i l p q l2 r s;simp only[A5,A6]at h;obtain⟨h0,rfl⟩:=h;obtain⟨h1,h2,h3,⟨h4,h5⟩,h6,h7⟩:=AD h0;refine(ug2 l l2 p q r s).trans ?_;rw[EZ h1,Ac,zQ h4,Ac,zQ h6,Ac,c_lc4_iff.2 ⟨rfl,h4.symm,h6.symm,h2⟩,Aa,anyF_false.2 fun j _ hj=>?_,Ac,c_lc9_iff.2 ⟨rfl,rfl,rfl,h3⟩,Aa,anyF_false.2 fun j _ hj=>?_]
  ·rfl
  ·have hj':j<q.n:=o_;exact EZ (h7 j hj' 0 d_)
  ·have hj':j<p.n:=o_;exact EZ (h5 j hj' 0 d_)
 ·cases h
def any0:∀n j,Ag (fun _=>false) n j=false:=fun n j=>anyF_false.2 fun _ _ _=>rfl
def Qv(m:Nat)(r s:Row)(n:Nat):Prop:=∀i,i<n->(r.R i 0).n<=1000000∧Hu m (r.R i 0) (s.R i 0)
instance(m:Nat)(r s:Row)(n:Nat):Decidable (Qv m r s n):=by unfold Qv;infer_instance
def uI:Dl:={τ:=pu 2++[.v (.c (.pointer (some ⟨0,0,some 0⟩))),.v (.c (.pointer (some ⟨1,0,some 0⟩)))]++pu 1++[.v (.int .i64)]++pu 26,saved:=[[]],mem:=[.box [.v (.sl 2)],.box [.v (.sl 3)],.row Fh false,.row Fh false]}
structure A_lg6 where
 j:Int
 n:Nat
 n_2:Nat
 r:Row
 s:Row
def xM(its:List It):Option A_lg6:=match its with|[.i j,.n n,.n n_2,.r r,.r s]=>some ⟨j,n,n_2,r,s⟩|_=>none
def mP(x:A_lg6):Bool:=x.j=0∧x.n_2=x.n∧x.n<=1000000∧Qv 4 x.r x.s x.n
def c_lg6_iff{x:A_lg6}:=@Bl _ mP _ _ rfl x
def lg6:ScanL A_lg6:=⟨50,4,[2,3,5],[4],uI,xM,fun x j=>[.i (j:Int),.n x.n,.n x.n,.r x.r,.r x.s],fun x=>x.n,mP,fun x j=>false,fun x j K=>none,fun x K=>K (.exit 0) ⟨us 32,[[]],[]⟩⟩
noncomputable def Cg6:Cx:=AP Tryz.prog fns [(101,sZ)] [lg6.C]
def Vw{m:Nat}{r s:Row}(h:r.n<=1000000∧Hu m r s):(w_ r 0 r.n).n<=1000000∧Hu m (w_ r 0 r.n) (w_ s 0 s.n):=by
 obtain⟨h1,h2,h3⟩:=h;refine⟨by rw[wn_];exact h1,by rw[wn_,wn_];exact h2,fun j hj c hc=>?_⟩;rw[wn_]at hj;rw[Jf,Jf,AE];exact h3 j hj c hc
def gi{i:Int}{n:Nat}(h1:0<=i)(h2:i<(n:Int)):(decide (0<=i)&&decide (i<(n:Int)))=true:=by simp only[A2,A3];exact⟨h1,h2⟩
def rF:Dl:={τ:=[.v (.sl 0),.v (.sl 1)]++pu 3++[.v (.int .i64),.v (.int .i64)]++pu 46,saved:=[[]],mem:=[.row Es false,.row Es false]}
structure A_lw9 where
 n:Nat
 n_2:Nat
 i:Int
 j:Int
 r:Row
 s:Row
def jK(its:List It):Option A_lw9:=match its with|[.n n,.n n_2,.i i,.i j,.r r,.r s]=>some ⟨n,n_2,i,j,r,s⟩|_=>none
def vX(x:A_lw9):Bool:=x.j=0∧x.n_2=x.n∧0<=x.i∧x.i<x.n∧(x.r.R x.i.toNat 0).n<=1000000∧Hu 2 (x.r.R x.i.toNat 0) (x.s.R x.i.toNat 0)
def c_lw9_iff{x:A_lw9}:=@Bl _ vX _ _ rfl x
def lw9:ScanL A_lw9:=⟨51,9,[0,1,5,6],[0,1,4,5],rF,jK,fun x j=>[.n x.n,.n x.n,.i x.i,.i (j:Int),.r x.r,.r x.s],fun x=>(x.r.R x.i.toNat 0).n,vX,fun x j=>false,fun x j K=>K .ret ⟨[S_ 0 0 x.n,S_ 1 0 x.n]++us 2++[.bool false,i64 x.i]++us 47,[[]],[Au Es x.r,Au Es x.s]⟩,fun x K=>K (.exit 2) ⟨[S_ 0 0 x.n,S_ 1 0 x.n]++us 3++[i64 x.i]++us 47,[[]],[Au Es x.r,Au Es x.s]⟩⟩
def tH:Dl:={τ:=[.v (.sl 0),.v (.sl 1)]++pu 3++[.v (.int .i64)]++pu 47,saved:=[[]],mem:=[.row Es false,.row Es false]}
structure A_lw4 where
 n:Nat
 n_2:Nat
 j:Int
 r:Row
 s:Row
def pO(its:List It):Option A_lw4:=match its with|[.n n,.n n_2,.i j,.r r,.r s]=>some ⟨n,n_2,j,r,s⟩|_=>none
def rY(x:A_lw4):Bool:=x.j=0∧x.n_2=x.n∧x.n<=1000000∧Qv 2 x.r x.s x.n
def c_lw4_iff{x:A_lw4}:=@Bl _ rY _ _ rfl x
def lw4:ScanL A_lw4:=⟨51,4,[0,1,5],[4],tH,pO,fun x j=>[.n x.n,.n x.n,.i (j:Int),.r x.r,.r x.s],fun x=>x.n,rY,fun x j=>false,fun x j K=>K .ret ⟨us 4++[.bool false]++us 48,[[]],[]⟩,fun x K=>K (.exit 0) ⟨us 53,[[]],[]⟩⟩
noncomputable def Cgw:Cx:=AP Tryz.prog fns [] [lw9.C,lw4.C]
def Aeu(R:St->OD)(K:X->St->OD)(q:Nat)(j:Int)(n n_2:Nat)(r s:Row):Ak Cg6 50 4 q (bst uI [.i j,.n n,.n n_2,.r r,.r s]) (BF [2,3,5] (some [4]) R K)=br (j<(n:Int)) (br (0<=j&&j<(n:Int)) (br (0<=j&&j<(n_2:Int)) (br (decide ((w_ (r.R (0+j.toNat) 0) 0 (r.R (0+j.toNat) 0).n).n<=1000000∧Hu 4 (w_ (r.R (0+j.toNat) 0) 0 (r.R (0+j.toNat) 0).n) (w_ (s.R (0+j.toNat) 0) 0 (s.R (0+j.toNat) 0).n))) (R (bst uI [.i (IntKind.i64.wrap (j+1)),.n n,.n n_2,.r r,.r s])) none) none) none) (lg6.Ke ⟨j,n,n_2,r,s⟩ K):=k_
def Ady(R:St->OD)(K:X->St->OD)(q n n_2:Nat)(i j:Int)(r s:Row):Ak Cgw 51 9 q (bst rF [.n n,.n n_2,.i i,.i j,.r r,.r s]) (BF [0,1,5,6] (some [0,1,4,5]) R K)=br (0<=i&&i<(n:Int)) (br (j<(↑(r.R (0+i.toNat) 0).n:Int)) (br (0<=i&&i<(n:Int)) (br (0<=j&&j<(↑(r.R (0+i.toNat) 0).n:Int)) (br (0<=i&&i<(n_2:Int)) (br (0<=j&&j<(↑(s.R (0+i.toNat) 0).n:Int)) (br (!((r.R (0+i.toNat) 0).I (0+j.toNat) 0==(s.R (0+i.toNat) 0).I (0+j.toNat) 0&&((r.R (0+i.toNat) 0).I (0+j.toNat) 1==(s.R (0+i.toNat) 0).I (0+j.toNat) 1&&true))) (K .ret ⟨[S_ 0 0 n,S_ 1 0 n_2]++us 2++[.bool false,i64 i]++us 47,[[]],[Au Es r,Au Es s]⟩) (R (bst rF [.n n,.n n_2,.i i,.i (IntKind.i64.wrap (j+1)),.r r,.r s]))) none) none) none) none) (K (.exit 2) ⟨[S_ 0 0 n,S_ 1 0 n_2]++us 3++[i64 i]++us 47,[[]],[Au Es r,Au Es s]⟩)) (none):=k_
def Ad7(R:St->OD)(K:X->St->OD)(q n n_2:Nat)(j:Int)(r s:Row):Ak Cgw 51 4 q (bst tH [.n n,.n n_2,.i j,.r r,.r s]) (BF [0,1,5] (some [4]) R K)=br (j<(n:Int)) (br (0<=j&&j<(n:Int)) (br (0<=j&&j<(n_2:Int)) (br ((↑(r.R (0+j.toNat) 0).n:Int) !=(↑(s.R (0+j.toNat) 0).n:Int)) (lw4.Kb ⟨n,n_2,j,r,s⟩ 0 K) (br (vX (⟨n,n_2,j,0,r,s⟩:A_lw9)) (br (Ag (fun j=>false) (r.R j.toNat 0).n 0) (lw4.Kb ⟨n,n_2,j,r,s⟩ 0 K) (R (bst tH [.n n,.n n,.i (IntKind.i64.wrap (j+1)),.r r,.r s]))) none)) none) none) (lw4.Ke ⟨n,n_2,j,r,s⟩ K):=k_
def ug6(r s:Row):BH Cg6 6 50 [.agg [.slice Fh r],.agg [.slice Fh s]]=br ((r.n:Int) !=(s.n:Int)) (some [.v (.bool false)]) (br (mP (⟨0,r.n,s.n,r,s⟩:A_lg6)) (br (Ag (fun j=>false) r.n 0) none (some [.v (.bool true)])) none):=k_
def ugw(r s:Row):BH Cgw 6 51 [.slice Es r,.slice Es s]=br ((r.n:Int) !=(s.n:Int)) (some [.v (.bool false)]) (br (rY (⟨r.n,s.n,0,r,s⟩:A_lw4)) (br (Ag (fun j=>false) r.n 0) (some [.v (.bool false)]) (some [.v (.bool true)])) none):=k_
noncomputable def Apy:Cx:=AP Tryz.prog fns [(54,Abp)] []
def Ar5(p q r s:Row)(n m:Int):BH Apy 6 55 [.agg [.slice Ar p,.slice Ar q,.v (i64 n)],.agg [.slice Ar r,.slice Ar s,.v (i64 m)]]=br (n==m) (br ((w_ p 0 p.n).n<=1000000) (br (MC (w_ p 0 p.n) (w_ r 0 r.n)) (br ((w_ q 0 q.n).n<=1000000) (some [.v (.bool (MC (w_ q 0 q.n) (w_ s 0 s.n)))]) none) (some [.v (.bool false)])) none) (some [.v (.bool false)]):=k_
def Aha:Ah Cg6 lg6.C:=lg6.ok k_
 (fun its x h hc=>by
  replace h:xM its=some x:=h;unfold xM at h;split at h
  ·cases h;have h:=c_lg6_iff.1 hc;dsimp only at h;obtain⟨rfl,rfl,_⟩:=h;rfl
  ·cases h)
 (fun x hc=>by have:=c_lg6_iff.1 hc;show x.n<2^64;omega)
 (fun q ⟨j0,n,n_2,r,s⟩ j hc hi R K=>by
  obtain⟨h1,h2,h3,h4⟩:=c_lg6_iff.1 hc;dsimp only at*
  replace hi:j<n:=hi;refine(Aeu R K q ((j:Int)) n n r s).trans ?_;have k1:=h4 j hi;rw[A9 j,AE j,gd j n hi,DX j n hi,Eg o_,A4 (Vw k1)];rfl)
 (fun q ⟨j0,n,n_2,r,s⟩ hc R K=>by
  obtain⟨h1,h2,h3,h4⟩:=c_lg6_iff.1 hc;dsimp only at*
  refine(Aeu R K q ((n:Int)) n n r s).trans ?_;rw[EU n];rfl)
def Aky:Ah Cgw lw9.C:=lw9.ok k_
 (fun its x h hc=>by
  replace h:jK its=some x:=h;unfold jK at h;split at h
  ·cases h;have h:=c_lw9_iff.1 hc;dsimp only at h;obtain⟨rfl,rfl,_⟩:=h;rfl
  ·cases h)
 (fun x hc=>by have:=c_lw9_iff.1 hc;show(x.r.R x.i.toNat 0).n<18446744073709551616;omega)
 (fun q ⟨n,n_2,i,j0,r,s⟩ j hc hi R K=>by
  obtain⟨h1,h2,h3,h4,h5,h6⟩:=c_lw9_iff.1 hc;dsimp only at*
  replace hi:j<(r.R i.toNat 0).n:=hi;refine(Ady R K q n n i ((j:Int)) r s).trans ?_;have hs:j<(s.R i.toNat 0).n:=by rw[<-h6.1];exact hi
  simp only[AE,A9];rw[gi h3 h4,gd j _ hi,gd j _ hs,DX j _ hi,h6.2 j hi 0 d_,h6.2 j hi 1 d_,Eg o_];simp only[beq_self_eq_true,Bool.and_self,Bool.not_true];subst h2;rfl)
 (fun q ⟨n,n_2,i,j0,r,s⟩ hc R K=>by
  obtain⟨h1,h2,h3,h4,h5,h6⟩:=c_lw9_iff.1 hc;dsimp only at*
  refine(Ady R K q n n i ((((r.R i.toNat 0).n:Nat):Int)) r s).trans ?_;simp only[AE];rw[gi h3 h4,EU];subst h2;rfl)
def Afs:Ah Cgw lw4.C:=lw4.ok k_
 (fun its x h hc=>by
  replace h:pO its=some x:=h;unfold pO at h;split at h
  ·cases h;have h:=c_lw4_iff.1 hc;dsimp only at h;obtain⟨rfl,rfl,_⟩:=h;rfl
  ·cases h)
 (fun x hc=>by have:=c_lw4_iff.1 hc;show x.n<2^64;omega)
 (fun q ⟨n,n_2,j0,r,s⟩ j hc hi R K=>by
  obtain⟨h1,h2,h3,h4⟩:=c_lw4_iff.1 hc;dsimp only at*
  replace hi:j<n:=hi;refine(Ad7 R K q n n ((j:Int)) r s).trans ?_;have k1:=h4 j hi;simp only[AE,A9];rw[gd j n hi,DX j n hi,Eg o_,zQ k1.2.1];rw[Aa,Aa,Aa,Ac];refine(congrArg (fun c=>br c _ _) (c_lw9_iff.2 ⟨rfl,rfl,Int.natCast_nonneg j,Int.ofNat_lt.2 hi,k1.1,k1.2⟩)).trans ?_;rw[Aa,any0];subst h2;rfl)
 (fun q ⟨n,n_2,j0,r,s⟩ hc R K=>by
  obtain⟨h1,h2,h3,h4⟩:=c_lw4_iff.1 hc;dsimp only at*
  refine(Ad7 R K q n n ((n:Int)) r s).trans ?_;rw[EU n];rfl)
def lZ:FD
 |[.agg [.slice [.slice [.int .i64,.int .i64,.int .i64,.int .i64]] r],.agg [.slice [.slice [.int .i64,.int .i64,.int .i64,.int .i64]] s]]=>some (r.n=s.n∧r.n<=1000000∧Qv 4 r s r.n,[.v (.bool true)])
 |_=>none
def Am4:Be Cg6:=Aj enter mixed (Aw Akk AX) (Aw Aha AX)
def Ag0:Den Tryz.prog 50 lZ:=Af Am4 fun ds rs h=>by
 unfold lZ at h;split at h
 ·rename_i r s;simp only[A5,A6]at h;obtain⟨h0,rfl⟩:=h;obtain⟨h1,h2,h3⟩:=AD h0;refine(ug6 r s).trans ?_;rw[zQ h1,Ac,c_lg6_iff.2 ⟨rfl,h1.symm,h2,h3⟩,Aa,any0,Ac]
 ·cases h
def fJ:FD
 |[.slice [.slice [.int .i64,.int .i64]] r,.slice [.slice [.int .i64,.int .i64]] s]=>some (r.n=s.n∧r.n<=1000000∧Qv 2 r s r.n,[.v (.bool true)])
 |_=>none
def Aki:Be Cgw:=Aj enter mixed AX (Aw Aky<|Aw Afs AX)
def Afw:Den Tryz.prog 51 fJ:=Af Aki fun ds rs h=>by
 unfold fJ at h;split at h
 ·rename_i r s;simp only[A5,A6]at h;obtain⟨h0,rfl⟩:=h;obtain⟨h1,h2,h3⟩:=AD h0;refine(ugw r s).trans ?_;rw[zQ h1,Ac,c_lw4_iff.2 ⟨rfl,h1.symm,h2,h3⟩,Aa,any0,Ac]
 ·cases h
def Oh{r s:Row}(h:Hu 1 r s):MC r s=true:=by
 unfold MC;rw[h.1,beq_self_eq_true,Bool.true_and,Bool.not_eq_true',anyF_false];exact fun j _ hj=>EZ (h.2 j (by rw[h.1];omega) 0 d_)
def zF:Be Apy:=Aj enter mixed (Aw den_sam AX) AX
def Xi:FD
 |[.agg [.slice [.int .i64] p,.slice [.int .i64] q,.v (.int .i64 n)],.agg [.slice [.int .i64] r,.slice [.int .i64] s,.v (.int .i64 m)]]=>some (n=m∧p.n<=1000000∧q.n<=1000000∧Hu 1 p r∧Hu 1 q s,[.v (.bool true)])
 |_=>none
def zH:Den Tryz.prog 55 Xi:=Af zF fun ds rs h=>by
 unfold Xi at h;split at h
 ·rename_i p q n r s m;simp only[A5,A6]at h;obtain⟨h0,rfl⟩:=h;obtain⟨h1,h2,h3,h4,h5⟩:=AD h0;refine(Ar5 p q r s n m).trans ?_;rw[h1,beq_self_eq_true,Aa,Oh (Vw ⟨h2,h4⟩).2,Oh (Vw ⟨h3,h5⟩).2,A4 (Vw ⟨h2,h4⟩).1,A4 (Vw ⟨h3,h5⟩).1];rfl
 ·cases h
def jQ:FD
 |[.slice [.slice [.int .i64]] r,.slice [.slice [.int .i64]] s]=>some (r.n=s.n∧r.n<=1000000∧Qv 1 r s r.n,[.v (.bool true)])
 |_=>none
def Ak5:Den Tryz.prog 53 jQ:=den_samL.less fun ds rs h=>by
 unfold jQ at h;split at h
 ·rename_i r s;simp only[A5,A6]at h;obtain⟨h0,rfl⟩:=h;obtain⟨h1,h2,h3⟩:=AD h0;have e:fE r s=true:=by
   unfold fE;rw[h1,beq_self_eq_true,Bool.true_and,Bool.not_eq_true',anyF_false];exact fun j _ hj=>by rw[Oh (h3 j o_).2];rfl
  show some (decide (r.n<=1000000∧∀i,i<r.n->(r.R i 0).n<=1000000),[D.v (.bool (fE r s))])=_;rw[e,A4 ⟨h2,fun i hi=>(h3 i hi).1⟩]
 ·cases h
def Wv:FD
 |[.slice [.int .i64] r,.slice [.int .i64] s]=>some (r.n<=1000000∧Hu 1 r s,[.v (.bool true)])
 |_=>none
def yN:Den Tryz.prog 54 Wv:=den_sam.less fun ds rs h=>by
 unfold Wv at h;split at h
 ·rename_i r s;simp only[A5,A6]at h;obtain⟨h0,rfl⟩:=h;obtain⟨h1,h2⟩:=AD h0;show some (decide (r.n<=1000000),[D.v (.bool (MC r s))])=_;rw[Oh h2,A4 h1]
 ·cases h
def CkE(r s:Row)(n:Nat):Prop:=∀i,i<n->r.I i 0=s.I i 0∧(r.R i 1).n<=1000000∧(r.R i 2).n<=1000000∧Hu 1 (r.R i 1) (s.R i 1)∧Hu 1 (r.R i 2) (s.R i 2)
instance(r s:Row)(n:Nat):Decidable (CkE r s n):=by unfold CkE;infer_instance
def eqc{l l2:Int}{p q r s:Row}(h:l=l2∧p.n<=1000000∧q.n<=1000000∧Hu 1 p r∧Hu 1 q s):l=l2∧(w_ p 0 p.n).n<=1000000∧(w_ q 0 q.n).n<=1000000∧Hu 1 (w_ p 0 p.n) (w_ r 0 r.n)∧Hu 1 (w_ q 0 q.n) (w_ s 0 s.n):=
 ⟨h.1,(Vw ⟨h.2.1,h.2.2.2.1⟩).1,(Vw ⟨h.2.2.1,h.2.2.2.2⟩).1,(Vw ⟨h.2.1,h.2.2.2.1⟩).2,(Vw ⟨h.2.2.1,h.2.2.2.2⟩).2⟩
def Ad9:Dl:={τ:=pu 2++[.v (.c (.pointer (some ⟨0,0,some 0⟩))),.v (.c (.pointer (some ⟨1,0,some 0⟩)))]++pu 1++[.v (.int .i64)]++pu 122,saved:=[[]],mem:=[.box [.v (.int .u8),.v (.sl 2),.v (.sl 3),.v (.int .u8),.v (.sl 4),.v (.sl 5),.v (.sl 6),.v (.sl 7),.v (.int .i64),.v (.sl 8),.v (.sl 9),.v (.int .i64),.v (.sl 10),.v (.sl 11),.v (.int .u8)],.box [.v (.int .u8),.v (.sl 12),.v (.sl 13),.v (.int .u8),.v (.sl 14),.v (.sl 15),.v (.sl 16),.v (.sl 17),.v (.int .i64),.v (.sl 18),.v (.sl 19),.v (.int .i64),.v (.sl 20),.v (.sl 21),.v (.int .u8)],.row DV false,.row Fh false,.row Es false,.row Cc false,.row Ar false,.row Cc false,.row Ar false,.row Ar false,.row Ar false,.row Ht false,.row DV false,.row Fh false,.row Es false,.row Cc false,.row Ar false,.row Cc false,.row Ar false,.row Ar false,.row Ar false,.row Ht false]}
structure A_lrs where
 j:Int
 k:Int
 n:Nat
 pin:Nat
 pc:Int
 won:Nat
 gvn:Nat
 aan:Nat
 fvn:Nat
 rr:Int
 lrn:Nat
 lpn:Nat
 ld:Int
 ban:Nat
 pan:Nat
 cl:Int
 kz:Int
 n_2:Nat
 pinz:Nat
 pcz:Int
 wonz:Nat
 gvnz:Nat
 aanz:Nat
 fvnz:Nat
 rrz:Int
 lrnz:Nat
 lpnz:Nat
 ldz:Int
 banz:Nat
 panz:Nat
 clz:Int
 ca:Row
 pi:Row
 wo:Row
 gv:Row
 aa:Row
 fv:Row
 lr:Row
 lp:Row
 ba:Row
 pa:Row
 caz:Row
 piz:Row
 woz:Row
 gvz:Row
 aaz:Row
 fvz:Row
 lrz:Row
 lpz:Row
 baz:Row
 paz:Row
def iU(its:List It):Option A_lrs:=match its with|(.i j::.i k::.n n::.n pin::.i pc::.n won::.n gvn::.n aan::.n fvn::.i rr::.n lrn::.n lpn::.i ld::.n ban::.n pan::.i cl::.i kz::.n n_2::.n pinz::.i pcz::.n wonz::.n gvnz::.n aanz::.n fvnz::.i rrz::.n lrnz::.n lpnz::.i ldz::.n banz::.n panz::.i clz::.r ca::.r pi::.r wo::.r gv::.r aa::.r fv::.r lr::.r lp::.r ba::.r pa::.r caz::.r piz::.r woz::.r gvz::.r aaz::.r fvz::.r lrz::.r lpz::.r baz::.r paz::[])=>some ⟨j,k,n,pin,pc,won,gvn,aan,fvn,rr,lrn,lpn,ld,ban,pan,cl,kz,n_2,pinz,pcz,wonz,gvnz,aanz,fvnz,rrz,lrnz,lpnz,ldz,banz,panz,clz,ca,pi,wo,gv,aa,fv,lr,lp,ba,pa,caz,piz,woz,gvz,aaz,fvz,lrz,lpz,baz,paz⟩|_=>none
def nS(x:A_lrs):Bool:=x.j=0∧x.n_2=x.n∧x.n<=1000000∧CkE x.ca x.caz x.n
def c_lrs_iff{x:A_lrs}:=@Bl _ nS _ _ rfl x
def lrs:ScanL A_lrs:=⟨12,4,[2,3,5],[2,3,4],Ad9,iU,fun x j=>(.i (j:Int)::.i x.k::.n x.n::.n x.pin::.i x.pc::.n x.won::.n x.gvn::.n x.aan::.n x.fvn::.i x.rr::.n x.lrn::.n x.lpn::.i x.ld::.n x.ban::.n x.pan::.i x.cl::.i x.kz::.n x.n::.n x.pinz::.i x.pcz::.n x.wonz::.n x.gvnz::.n x.aanz::.n x.fvnz::.i x.rrz::.n x.lrnz::.n x.lpnz::.i x.ldz::.n x.banz::.n x.panz::.i x.clz::.r x.ca::.r x.pi::.r x.wo::.r x.gv::.r x.aa::.r x.fv::.r x.lr::.r x.lp::.r x.ba::.r x.pa::.r x.caz::.r x.piz::.r x.woz::.r x.gvz::.r x.aaz::.r x.fvz::.r x.lrz::.r x.lpz::.r x.baz::.r x.paz::[]),fun x=>x.n,nS,fun x j=>false,fun x j K=>none,fun x K=>K (.exit 0) ⟨us 2++[.pointer (some ⟨0,0,some 0⟩),.pointer (some ⟨1,0,some 0⟩)]++us 124,[[]],[some (.box [.int .u8 x.k,S_ 2 0 x.n,S_ 3 0 x.pin,.int .u8 x.pc,S_ 4 0 x.won,S_ 5 0 x.gvn,S_ 6 0 x.aan,S_ 7 0 x.fvn,i64 x.rr,S_ 8 0 x.lrn,S_ 9 0 x.lpn,i64 x.ld,S_ 10 0 x.ban,S_ 11 0 x.pan,.int .u8 x.cl]),some (.box [.int .u8 x.kz,S_ 12 0 x.n,S_ 13 0 x.pinz,.int .u8 x.pcz,S_ 14 0 x.wonz,S_ 15 0 x.gvnz,S_ 16 0 x.aanz,S_ 17 0 x.fvnz,i64 x.rrz,S_ 18 0 x.lrnz,S_ 19 0 x.lpnz,i64 x.ldz,S_ 20 0 x.banz,S_ 21 0 x.panz,.int .u8 x.clz]),Au DV x.ca,Au Fh x.pi,Au Es x.wo,Au Cc x.gv,Au Ar x.aa,Au Cc x.fv,Au Ar x.lr,Au Ar x.lp,Au Ar x.ba,Au Ht x.pa,Au DV x.caz,Au Fh x.piz,Au Es x.woz,Au Cc x.gvz,Au Ar x.aaz,Au Cc x.fvz,Au Ar x.lrz,Au Ar x.lpz,Au Ar x.baz,Au Ht x.paz]⟩⟩
noncomputable def Crs:Cx:=AP Tryz.prog fns [(52,rO),(50,lZ),(51,fJ),(53,jQ),(54,Wv),(55,Xi),(56,qK),(57,xR)] [lrs.C]
def Adn(R:St->OD)(K:X->St->OD)(q:Nat)(j k:Int)(n pin:Nat)(pc:Int)(won gvn aan fvn:Nat)(rr:Int)(lrn lpn:Nat)(ld:Int)(ban pan:Nat)(cl kz:Int)(n_2 pinz:Nat)(pcz:Int)(wonz gvnz aanz fvnz:Nat)(rrz:Int)(lrnz lpnz:Nat)(ldz:Int)(banz panz:Nat)(clz:Int)(ca pi wo gv aa fv lr lp ba pa caz piz woz gvz aaz fvz lrz lpz baz paz:Row):Ak Crs 12 4 q (bst Ad9 (.i j::.i k::.n n::.n pin::.i pc::.n won::.n gvn::.n aan::.n fvn::.i rr::.n lrn::.n lpn::.i ld::.n ban::.n pan::.i cl::.i kz::.n n_2::.n pinz::.i pcz::.n wonz::.n gvnz::.n aanz::.n fvnz::.i rrz::.n lrnz::.n lpnz::.i ldz::.n banz::.n panz::.i clz::.r ca::.r pi::.r wo::.r gv::.r aa::.r fv::.r lr::.r lp::.r ba::.r pa::.r caz::.r piz::.r woz::.r gvz::.r aaz::.r fvz::.r lrz::.r lpz::.r baz::.r paz::[])) (BF [2,3,5] (some [2,3,4]) R K)=br (j<(n:Int)) (br (0<=j&&j<(n:Int)) (br (0<=j&&j<(n_2:Int)) (br (decide (ca.I (0+j.toNat) 0=caz.I (0+j.toNat) 0∧(w_ (ca.R (0+j.toNat) 1) 0 (ca.R (0+j.toNat) 1).n).n<=1000000∧(w_ (ca.R (0+j.toNat) 2) 0 (ca.R (0+j.toNat) 2).n).n<=1000000∧Hu 1 (w_ (ca.R (0+j.toNat) 1) 0 (ca.R (0+j.toNat) 1).n) (w_ (caz.R (0+j.toNat) 1) 0 (caz.R (0+j.toNat) 1).n)∧Hu 1 (w_ (ca.R (0+j.toNat) 2) 0 (ca.R (0+j.toNat) 2).n) (w_ (caz.R (0+j.toNat) 2) 0 (caz.R (0+j.toNat) 2).n))) (R ⟨us 2++[.pointer (some ⟨0,0,some 0⟩),.pointer (some ⟨1,0,some 0⟩)]++us 1++[i64 (IntKind.i64.wrap (j+1))]++us 122,[[]],[some (.box [.int .u8 k,S_ 2 0 n,S_ 3 0 pin,.int .u8 pc,S_ 4 0 won,S_ 5 0 gvn,S_ 6 0 aan,S_ 7 0 fvn,i64 rr,S_ 8 0 lrn,S_ 9 0 lpn,i64 ld,S_ 10 0 ban,S_ 11 0 pan,.int .u8 cl]),some (.box [.int .u8 kz,S_ 12 0 n_2,S_ 13 0 pinz,.int .u8 pcz,S_ 14 0 wonz,S_ 15 0 gvnz,S_ 16 0 aanz,S_ 17 0 fvnz,i64 rrz,S_ 18 0 lrnz,S_ 19 0 lpnz,i64 ldz,S_ 20 0 banz,S_ 21 0 panz,.int .u8 clz]),Au DV ca,Au Fh pi,Au Es wo,Au Cc gv,Au Ar aa,Au Cc fv,Au Ar lr,Au Ar lp,Au Ar ba,Au Ht pa,Au DV caz,Au Fh piz,Au Es woz,Au Cc gvz,Au Ar aaz,Au Cc fvz,Au Ar lrz,Au Ar lpz,Au Ar baz,Au Ht paz]⟩) none) none) none) (K (.exit 0) ⟨us 2++[.pointer (some ⟨0,0,some 0⟩),.pointer (some ⟨1,0,some 0⟩)]++us 124,[[]],[some (.box [.int .u8 k,S_ 2 0 n,S_ 3 0 pin,.int .u8 pc,S_ 4 0 won,S_ 5 0 gvn,S_ 6 0 aan,S_ 7 0 fvn,i64 rr,S_ 8 0 lrn,S_ 9 0 lpn,i64 ld,S_ 10 0 ban,S_ 11 0 pan,.int .u8 cl]),some (.box [.int .u8 kz,S_ 12 0 n_2,S_ 13 0 pinz,.int .u8 pcz,S_ 14 0 wonz,S_ 15 0 gvnz,S_ 16 0 aanz,S_ 17 0 fvnz,i64 rrz,S_ 18 0 lrnz,S_ 19 0 lpnz,i64 ldz,S_ 20 0 banz,S_ 21 0 panz,.int .u8 clz]),Au DV ca,Au Fh pi,Au Es wo,Au Cc gv,Au Ar aa,Au Cc fv,Au Ar lr,Au Ar lp,Au Ar ba,Au Ht pa,Au DV caz,Au Fh piz,Au Es woz,Au Cc gvz,Au Ar aaz,Au Cc fvz,Au Ar lrz,Au Ar lpz,Au Ar baz,Au Ht paz]⟩):=k_
def urs(k:Int)(ca pi:Row)(pc:Int)(wo gv aa fv:Row)(rr:Int)(lr lp:Row)(ld:Int)(ba pa:Row)(cl k2:Int)(ca2 pi2:Row)(pc2:Int)(wo2 gv2 aa2 fv2:Row)(rr2:Int)(lr2 lp2:Row)(ld2:Int)(ba2 pa2:Row)(cl2:Int):BH Crs 6 12 [TR k ca pi pc wo gv aa fv rr lr lp ld ba pa cl,TR k2 ca2 pi2 pc2 wo2 gv2 aa2 fv2 rr2 lr2 lp2 ld2 ba2 pa2 cl2]=br (k !=k2) (some [.v (.bool false)]) (br (cl !=cl2) (some [.v (.bool false)]) (br (pc !=pc2) (some [.v (.bool false)]) (br ((ca.n:Int) !=(ca2.n:Int)) (some [.v (.bool false)]) (br (decide ((w_ pi 0 pi.n).n=(w_ pi2 0 pi2.n).n∧(w_ pi 0 pi.n).n<=1000000∧Qv 4 (w_ pi 0 pi.n) (w_ pi2 0 pi2.n) (w_ pi 0 pi.n).n)) (br (decide ((w_ wo 0 wo.n).n=(w_ wo2 0 wo2.n).n∧(w_ wo 0 wo.n).n<=1000000∧Qv 2 (w_ wo 0 wo.n) (w_ wo2 0 wo2.n) (w_ wo 0 wo.n).n)) (br (nS (⟨0,k,ca.n,pi.n,pc,wo.n,gv.n,aa.n,fv.n,rr,lr.n,lp.n,ld,ba.n,pa.n,cl,k2,ca2.n,pi2.n,pc2,wo2.n,gv2.n,aa2.n,fv2.n,rr2,lr2.n,lp2.n,ld2,ba2.n,pa2.n,cl2,ca,pi,wo,gv,aa,fv,lr,lp,ba,pa,ca2,pi2,wo2,gv2,aa2,fv2,lr2,lp2,ba2,pa2⟩:A_lrs)) (br (Ag (fun j=>false) ca.n 0) none (br (decide ((w_ gv 0 gv.n).n=(w_ gv2 0 gv2.n).n∧(w_ gv 0 gv.n).n<=1000000∧Qv 1 (w_ gv 0 gv.n) (w_ gv2 0 gv2.n) (w_ gv 0 gv.n).n)) (br (decide ((w_ aa 0 aa.n).n<=1000000∧Hu 1 (w_ aa 0 aa.n) (w_ aa2 0 aa2.n))) (br (decide ((w_ fv 0 fv.n).n=(w_ fv2 0 fv2.n).n∧(w_ fv 0 fv.n).n<=1000000∧Qv 1 (w_ fv 0 fv.n) (w_ fv2 0 fv2.n) (w_ fv 0 fv.n).n)) (br (rr !=rr2) (some [.v (.bool false)]) (br (decide (ld=ld2∧(w_ lr 0 lr.n).n<=1000000∧(w_ lp 0 lp.n).n<=1000000∧Hu 1 (w_ lr 0 lr.n) (w_ lr2 0 lr2.n)∧Hu 1 (w_ lp 0 lp.n) (w_ lp2 0 lp2.n))) (br (decide ((w_ ba 0 ba.n).n<=1000000∧Hu 1 (w_ ba 0 ba.n) (w_ ba2 0 ba2.n))) (br (decide ((w_ pa 0 pa.n).n<=1000000∧Hu 3 (w_ pa 0 pa.n) (w_ pa2 0 pa2.n))) (some [.v (.bool true)]) none) none) none)) none) none) none)) none) none) none)))):=k_
def Amc:Ah Crs lrs.C:=lrs.ok k_
 (fun its x h hc=>by
  replace h:iU its=some x:=h;unfold iU at h;split at h
  ·cases h;have h:=c_lrs_iff.1 hc;dsimp only at h;obtain⟨rfl,rfl,_⟩:=h;rfl
  ·cases h)
 (fun x hc=>by have:=c_lrs_iff.1 hc;show x.n<2^64;omega)
 (fun q ⟨j0,k,n,pin,pc,won,gvn,aan,fvn,rr,lrn,lpn,ld,ban,pan,cl,kz,n_2,pinz,pcz,wonz,gvnz,aanz,fvnz,rrz,lrnz,lpnz,ldz,banz,panz,clz,ca,pi,wo,gv,aa,fv,lr,lp,ba,pa,caz,piz,woz,gvz,aaz,fvz,lrz,lpz,baz,paz⟩ j hc hi R K=>by
  obtain⟨h1,h2,h3,h4⟩:=c_lrs_iff.1 hc;dsimp only at*
  replace hi:j<n:=hi;refine(Adn R K q ((j:Int)) k n pin pc won gvn aan fvn rr lrn lpn ld ban pan cl kz n pinz pcz wonz gvnz aanz fvnz rrz lrnz lpnz ldz banz panz clz ca pi wo gv aa fv lr lp ba pa caz piz woz gvz aaz fvz lrz lpz baz paz).trans ?_;have k1:=h4 j hi;rw[A9 j,AE j,gd j n hi,DX j n hi,Eg o_,A4 (eqc k1)];subst h2;rfl)
 (fun q ⟨j0,k,n,pin,pc,won,gvn,aan,fvn,rr,lrn,lpn,ld,ban,pan,cl,kz,n_2,pinz,pcz,wonz,gvnz,aanz,fvnz,rrz,lrnz,lpnz,ldz,banz,panz,clz,ca,pi,wo,gv,aa,fv,lr,lp,ba,pa,caz,piz,woz,gvz,aaz,fvz,lrz,lpz,baz,paz⟩ hc R K=>by
  obtain⟨h1,h2,h3,h4⟩:=c_lrs_iff.1 hc;dsimp only at*
  refine(Adn R K q ((n:Int)) k n pin pc won gvn aan fvn rr lrn lpn ld ban pan cl kz n pinz pcz wonz gvnz aanz fvnz rrz lrnz lpnz ldz banz panz clz ca pi wo gv aa fv lr lp ba pa caz piz woz gvz aaz fvz lrz lpz baz paz).trans ?_;subst h2;rw[EU];rfl)
def wsL{j:Nat}(h:j<9223372036854775807):IntKind.i64.wrap ((j:Int)+1)=((j+1:Nat):Int):=by
 rw[wrap64 o_ o_];omega
def Uk(r:Row):Bool:=(decide ((r.n:Int)>20)&&decide ((r.n:Int)<=60))||decide ((r.n:Int)>70)
def grb(r:Row):Bool:=(decide ((r.n:Int)>7)&&decide ((r.n:Int)<=10))||decide ((r.n:Int)>20)
def jF(p q:Row):Bool:=decide ((p.n:Int)>60)||decide ((q.n:Int)>60)
noncomputable def Cg0:Cx:=AP Tryz.prog fns [] []
def Xx:Be Cg0:=Aj enter mixed AX AX
def vg3(r:Row):BH Cg0 6 14 [.slice Qw r]=br ((r.n:Int)>20) (br ((r.n:Int)<=60) (some [.v (.bool true)]) (some [.v (.bool ((r.n:Int)>70))])) (some [.v (.bool ((r.n:Int)>70))]):=k_
def vgb(r:Row):BH Cg0 6 18 [.slice Ar r]=br ((r.n:Int)>7) (br ((r.n:Int)<=10) (some [.v (.bool true)]) (some [.v (.bool ((r.n:Int)>20))])) (some [.v (.bool ((r.n:Int)>20))]):=k_
def vg2(l:Int)(p q:Row):BH Cg0 6 108 [.agg [.v (i64 l),.slice Ar p,.slice Ar q]]=br ((p.n:Int)>60) (some [.v (.bool true)]) (some [.v (.bool ((q.n:Int)>60))]):=k_
def Ace:FD
 |[.slice [.int .i64,.int .i64,.int .i64,.int .i64] r]=>some (true,[.v (.bool (Uk r))])
 |_=>none
def Agt:FD
 |[.slice [.int .i64] r]=>some (true,[.v (.bool (grb r))])
 |_=>none
def Ag9:FD
 |[.agg [.v (.int .i64 l),.slice [.int .i64] p,.slice [.int .i64] q]]=>some (true,[.v (.bool (jF p q))])
 |_=>none
def Ym:Den Tryz.prog 14 Ace:=Af Xx fun ds rs h=>by
 unfold Ace at h;split at h
 ·rename_i r;simp only[A5,A6]at h;obtain⟨_,rfl⟩:=h;refine(vg3 r).trans ?_;unfold Uk;cases decide ((r.n:Int)>20)<;>cases decide ((r.n:Int)<=60)<;>rfl
 ·cases h
def zC:Den Tryz.prog 18 Agt:=Af Xx fun ds rs h=>by
 unfold Agt at h;split at h
 ·rename_i r;simp only[A5,A6]at h;obtain⟨_,rfl⟩:=h;refine(vgb r).trans ?_;unfold grb;cases decide ((r.n:Int)>7)<;>cases decide ((r.n:Int)<=10)<;>rfl
 ·cases h
def Abt:Den Tryz.prog 108 Ag9:=Af Xx fun ds rs h=>by
 unfold Ag9 at h;split at h
 ·rename_i l p q;simp only[A5,A6]at h;obtain⟨_,rfl⟩:=h;refine(vg2 l p q).trans ?_;unfold jF;cases decide ((p.n:Int)>60)<;>rfl
 ·cases h
def qV:Dl:={τ:=[.v (.sl 0)]++pu 2++[.v (.int .i64)]++pu 14,saved:=[[]],mem:=[.row DV false]}
structure A_lg4 where
 n:Nat
 j:Int
 r:Row
def sF(its:List It):Option A_lg4:=match its with|[.n n,.i j,.r r]=>some ⟨n,j,r⟩|_=>none
def lI(x:A_lg4):Bool:=x.j=0∧x.n<=9223372036854775807
def c_lg4_iff{x:A_lg4}:=@Bl _ lI _ _ rfl x
def lg4:ScanL A_lg4:=⟨61,2,[0,3],[0,2],qV,sF,fun x j=>[.n x.n,.i (j:Int),.r x.r],fun x=>x.n,lI,fun x j=>jF (x.r.R j 1) (x.r.R j 2),fun x j K=>K .ret ⟨[S_ 0 0 x.n]++us 1++[.bool true]++us 15,[[]],[Au DV x.r]⟩,fun x K=>K (.exit 0) ⟨[S_ 0 0 x.n]++us 17,[[]],[Au DV x.r]⟩⟩
noncomputable def Cg4:Cx:=AP Tryz.prog fns [(108,Ag9)] [lg4.C]
def WM:Dl:={τ:=[.v (.sl 0)]++pu 2++[.v (.int .i64)]++pu 24,saved:=[[]],mem:=[.row Cc false]}
structure A_lg13 where
 n:Nat
 j:Int
 r:Row
def Wh(its:List It):Option A_lg13:=match its with|[.n n,.i j,.r r]=>some ⟨n,j,r⟩|_=>none
def Xn(x:A_lg13):Bool:=x.j=0∧x.n=x.n
def c_lg13_iff{x:A_lg13}:=@Bl _ Xn _ _ rfl x
def lg13:ScanL A_lg13:=⟨62,2,[0,3],[0,2],WM,Wh,fun x j=>[.n x.n,.i (j:Int),.r x.r],fun x=>min x.n 20,Xn,fun x j=>decide (((x.r.R j 0).n:Int)>50),fun x j K=>K .ret ⟨[S_ 0 0 x.n]++us 1++[.bool true]++us 25,[[]],[Au Cc x.r]⟩,fun x K=>K (.exit 0) ⟨[S_ 0 0 x.n]++us 27,[[]],[Au Cc x.r]⟩⟩
noncomputable def yR:Cx:=AP Tryz.prog fns [] [lg13.C]
def Af2(R:St->OD)(K:X->St->OD)(q n:Nat)(j:Int)(r:Row):Ak Cg4 61 2 q (bst qV [.n n,.i j,.r r]) (BF [0,3] (some [0,2]) R K)=br (j<(n:Int)) (br (0<=j&&j<(n:Int)) (br (jF (w_ (r.R (0+j.toNat) 1) 0 (r.R (0+j.toNat) 1).n) (w_ (r.R (0+j.toNat) 2) 0 (r.R (0+j.toNat) 2).n)) (lg4.Kb ⟨n,j,r⟩ 0 K) (R (bst qV [.n n,.i (IntKind.i64.wrap (j+1)),.r r]))) none) (lg4.Ke ⟨n,j,r⟩ K):=k_
def mG(R:St->OD)(K:X->St->OD)(q n:Nat)(j:Int)(r:Row):Ak yR 62 2 q (bst WM [.n n,.i j,.r r]) (BF [0,3] (some [0,2]) R K)=br (j<(n:Int)) (br (j<20) (br (0<=j&&j<(n:Int)) (br ((↑(r.R (0+j.toNat) 0).n:Int)>50) (lg13.Kb ⟨n,j,r⟩ 0 K) (R (bst WM [.n n,.i (IntKind.i64.wrap (j+1)),.r r]))) none) (lg13.Ke ⟨n,j,r⟩ K)) (lg13.Ke ⟨n,j,r⟩ K):=k_
def vg4(r:Row):BH Cg4 6 61 [.slice DV r]=br (lI (⟨r.n,0,r⟩:A_lg4)) (br (Ag (fun j=>jF (r.R j 1) (r.R j 2)) r.n 0) (some [.v (.bool true)]) (some [.v (.bool ((r.n:Int)>10))])) (none):=k_
def Ari(r:Row):BH yR 6 62 [.slice Cc r]=br (Xn (⟨r.n,0,r⟩:A_lg13)) (br (Ag (fun j=>decide ((↑(r.R j 0).n:Int)>50)) (min r.n 20) 0) (some [.v (.bool true)]) (br ((r.n:Int)==6) (some [.v (.bool true)]) (some [.v (.bool ((r.n:Int)>20))]))) (none):=k_
def Aih:Ah Cg4 lg4.C:=lg4.ok k_
 (fun its x h hc=>by
  replace h:sF its=some x:=h;unfold sF at h;split at h
  ·cases h;have h:=c_lg4_iff.1 hc;dsimp only at h;obtain⟨rfl,_⟩:=h;rfl
  ·cases h)
 (fun x hc=>by have:=c_lg4_iff.1 hc;show x.n<2^64;omega)
 (fun q ⟨n,j0,r⟩ j hc hi R K=>by
  obtain⟨h1,h2⟩:=c_lg4_iff.1 hc;dsimp only at*
  replace hi:j<n:=hi;refine(Af2 R K q n ((j:Int)) r).trans ?_;rw[A9 j,AE j,gd j n hi,DX j n hi,wsL o_];unfold jF;rw[wn_,wn_];rfl)
 (fun q ⟨n,j0,r⟩ hc R K=>by
  obtain⟨h1,h2⟩:=c_lg4_iff.1 hc;dsimp only at*
  refine(Af2 R K q n ((n:Int)) r).trans ?_;rw[EU n];rfl)
def Aaj:Ah yR lg13.C:=lg13.ok k_
 (fun its x h hc=>by
  replace h:Wh its=some x:=h;unfold Wh at h;split at h
  ·cases h;have h:=c_lg13_iff.1 hc;dsimp only at h;obtain⟨rfl,_⟩:=h;rfl
  ·cases h)
 (fun x hc=>by have:=c_lg13_iff.1 hc;show min x.n 20<18446744073709551616;omega)
 (fun q ⟨n,j0,r⟩ j hc hi R K=>by
  obtain⟨h1,h2⟩:=c_lg13_iff.1 hc;dsimp only at*
  replace hi:j<min n 20:=hi;refine(mG R K q n ((j:Int)) r).trans ?_;rw[A9 j,AE j,gd j n o_,DX j n o_,Eg o_,A4 (show(j:Int)<20 by omega)];rfl)
 (fun q ⟨n,j0,r⟩ hc R K=>by
  obtain⟨h1,h2⟩:=c_lg13_iff.1 hc;dsimp only at*
  refine(mG R K q n (((min n 20:Nat):Int)) r).trans ?_;by_cases k:n<=20
  ·rw[Nat.min_eq_left k,EU n];rfl
  ·rw[Nat.min_eq_right o_,DX 20 n o_,show decide (((20:Nat):Int)<20)=false from rfl];rfl)
def gr4(r:Row):Bool:=Ag (fun j=>jF (r.R j 1) (r.R j 2)) r.n 0||decide ((r.n:Int)>10)
def Ahe:FD
 |[.slice [.int .i64,.slice [.int .i64],.slice [.int .i64]] r]=>some (r.n<=9223372036854775807,[.v (.bool (gr4 r))])
 |_=>none
def Aml:Be Cg4:=Aj enter mixed (Aw Abt AX) (Aw Aih AX)
def Ac9:Den Tryz.prog 61 Ahe:=Af Aml fun ds rs h=>by
 unfold Ahe at h;split at h
 ·rename_i r;simp only[A5,A6,A3]at h;obtain⟨h0,rfl⟩:=h;refine(vg4 r).trans ?_;rw[c_lg4_iff.2 ⟨rfl,h0⟩,Aa];unfold gr4;show br (Ag (fun j=>jF (r.R j 1) (r.R j 2)) r.n 0) _ _=_;cases Ag (fun j=>jF (r.R j 1) (r.R j 2)) r.n 0<;>rfl
 ·cases h
def Xk(r:Row):Bool:=Ag (fun j=>decide (((r.R j 0).n:Int)>50)) (min r.n 20) 0||((r.n:Int)==6||decide ((r.n:Int)>20))
def wS:FD
 |[.slice [.slice [.int .i64]] r]=>some (true,[.v (.bool (Xk r))])
 |_=>none
def Aaq:Be yR:=Aj enter mixed AX (Aw Aaj AX)
def iL:Den Tryz.prog 62 wS:=Af Aaq fun ds rs h=>by
 unfold wS at h;split at h
 ·rename_i r;simp only[A5,A6]at h;obtain⟨_,rfl⟩:=h;refine(Ari r).trans ?_;rw[c_lg13_iff.2 ⟨rfl,rfl⟩,Aa];unfold Xk;show br (Ag (fun j=>decide (((r.R j 0).n:Int)>50)) (min r.n 20) 0) _ _=_;cases Ag (fun j=>decide (((r.R j 0).n:Int)>50)) (min r.n 20) 0<;>cases(r.n:Int)==6<;>rfl
 ·cases h
noncomputable def Ae0:Cx:=AP Tryz.prog fns [(62,wS)] []
def Aqn(r p q:Row)(n m:Int):BH Ae0 6 17 [.agg [.slice Cc r,.v (i64 n)],.agg [.slice Ar p,.slice Ar q,.v (i64 m)]]=br (Xk (w_ r 0 r.n)) (some [.v (.bool true)]) (br ((p.n:Int)>50) (some [.v (.bool true)]) (some [.v (.bool ((q.n:Int)>50))])):=k_
def Xy:Dl:={τ:=[.v (.sl 0)]++pu 2++[.v (.c (.pointer (some ⟨1,0,some 0⟩)))]++pu 1++[.v (.int .i64)]++pu 21,saved:=[[]],mem:=[.row DV false,.box [.v (.sl 2)],.row Fh false]}
structure A_lg6r where
 rn:Nat
 j:Int
 r:Row
 sn:Nat
 s:Row
def WX(its:List It):Option A_lg6r:=match its with|[.n rn,.i j,.r r,.n sn,.r s]=>some ⟨rn,j,r,sn,s⟩|_=>none
def Xv(x:A_lg6r):Bool:=x.j=0∧x.sn<=9223372036854775807
def c_lg6r_iff{x:A_lg6r}:=@Bl _ Xv _ _ rfl x
def lg6r:ScanL A_lg6r:=⟨15,2,[0,3,5],[0,3,4],Xy,WX,fun x j=>[.n x.rn,.i (j:Int),.r x.r,.n x.sn,.r x.s],fun x=>x.sn,Xv,fun x j=>Uk (x.s.R j 0),fun x j K=>K .ret ⟨[S_ 0 0 x.rn]++us 2++[.pointer (some ⟨1,0,some 0⟩),.bool true]++us 22,[[]],[Au DV x.r,some (.box [S_ 2 0 x.sn]),Au Fh x.s]⟩,fun x K=>K (.exit 0) ⟨[S_ 0 0 x.rn]++us 2++[.pointer (some ⟨1,0,some 0⟩)]++us 23,[[]],[Au DV x.r,some (.box [S_ 2 0 x.sn]),Au Fh x.s]⟩⟩
noncomputable def zD:Cx:=AP Tryz.prog fns [(14,Ace),(61,Ahe)] [lg6r.C]
def xB(R:St->OD)(K:X->St->OD)(q rn:Nat)(j:Int)(r:Row)(sn:Nat)(s:Row):Ak zD 15 2 q (bst Xy [.n rn,.i j,.r r,.n sn,.r s]) (BF [0,3,5] (some [0,3,4]) R K)=br (j<(sn:Int)) (br (0<=j&&j<(sn:Int)) (br (Uk (w_ (s.R (0+j.toNat) 0) 0 (s.R (0+j.toNat) 0).n)) (lg6r.Kb ⟨rn,j,r,sn,s⟩ 0 K) (R (bst Xy [.n rn,.i (IntKind.i64.wrap (j+1)),.r r,.n sn,.r s]))) none) (lg6r.Ke ⟨rn,j,r,sn,s⟩ K):=k_
def vg6(r s:Row):BH zD 6 15 [.slice DV r,.agg [.slice Fh s]]=br (Xv (⟨r.n,0,r,s.n,s⟩:A_lg6r)) (br (Ag (fun j=>Uk (s.R j 0)) s.n 0) (some [.v (.bool true)]) (br ((w_ r 0 r.n).n<=9223372036854775807) (br (gr4 (w_ r 0 r.n)) (some [.v (.bool true)]) (some [.v (.bool ((s.n:Int)>10))])) none)) (none):=k_
def Abn:Ah zD lg6r.C:=lg6r.ok k_
 (fun its x h hc=>by
  replace h:WX its=some x:=h;unfold WX at h;split at h
  ·cases h;have h:=c_lg6r_iff.1 hc;dsimp only at h;obtain⟨rfl,_⟩:=h;rfl
  ·cases h)
 (fun x hc=>by have:=c_lg6r_iff.1 hc;show x.sn<2^64;omega)
 (fun q ⟨rn,j0,r,sn,s⟩ j hc hi R K=>by
  obtain⟨h1,h2⟩:=c_lg6r_iff.1 hc;dsimp only at*
  replace hi:j<sn:=hi;refine(xB R K q rn ((j:Int)) r sn s).trans ?_;rw[A9 j,AE j,gd j sn hi,DX j sn hi,wsL o_];unfold Uk;rw[wn_];rfl)
 (fun q ⟨rn,j0,r,sn,s⟩ hc R K=>by
  obtain⟨h1,h2⟩:=c_lg6r_iff.1 hc;dsimp only at*
  refine(xB R K q rn ((sn:Int)) r sn s).trans ?_;rw[EU sn];rfl)
def X9(r p q:Row):Bool:=Xk (Ae r)||(decide ((p.n:Int)>50)||decide ((q.n:Int)>50))
def eP:FD
 |[.agg [.slice [.slice [.int .i64]] r,.v (.int .i64 n)],.agg [.slice [.int .i64] p,.slice [.int .i64] q,.v (.int .i64 m)]]=>some (true,[.v (.bool (X9 r p q))])
 |_=>none
def eF:Be Ae0:=Aj enter mixed (Aw iL AX) AX
def vH:Den Tryz.prog 17 eP:=Af eF fun ds rs h=>by
 unfold eP at h;split at h
 ·rename_i r n p q m;simp only[A5,A6]at h;obtain⟨_,rfl⟩:=h;refine(Aqn r p q n m).trans ?_;unfold X9;show br (Xk (Ae r)) _ _=_;cases Xk (Ae r)<;>cases decide ((p.n:Int)>50)<;>rfl
 ·cases h
def gr6(r s:Row):Bool:=Ag (fun j=>Uk (s.R j 0)) s.n 0||(gr4 (Ae r)||decide ((s.n:Int)>10))
def Ahs:FD
 |[.slice [.int .i64,.slice [.int .i64],.slice [.int .i64]] r,.agg [.slice [.slice [.int .i64,.int .i64,.int .i64,.int .i64]] s]]=>some (r.n<=9223372036854775807∧s.n<=9223372036854775807,[.v (.bool (gr6 r s))])
 |_=>none
def Aa6:Be zD:=Aj enter mixed (Aw Ym<|Aw Ac9 AX) (Aw Abn AX)
def Acf:Den Tryz.prog 15 Ahs:=Af Aa6 fun ds rs h=>by
 unfold Ahs at h;split at h
 ·rename_i r s;simp only[A5,A6,A3]at h;obtain⟨⟨h0,h1⟩,rfl⟩:=h;refine(vg6 r s).trans ?_;rw[c_lg6r_iff.2 ⟨rfl,h1⟩,Aa];unfold gr6;show br (Ag (fun j=>Uk (s.R j 0)) s.n 0) _ (br (decide ((w_ r 0 r.n).n<=9223372036854775807)) (br (gr4 (Ae r)) _ _) none)=_;rw[wn_,A4 h0,Aa];cases Ag (fun j=>Uk (s.R j 0)) s.n 0<;>cases gr4 (Ae r)<;>rfl
 ·cases h
def dS:Dl:={τ:=pu 1++[.v (.c (.pointer (some ⟨0,0,some 0⟩)))]++pu 1++[.v (.int .i64)]++pu 79,saved:=[[]],mem:=[.box [.v (.int .u8),.v (.sl 1),.v (.sl 2),.v (.int .u8),.v (.sl 3),.v (.sl 4),.v (.sl 5),.v (.sl 6),.v (.int .i64),.v (.sl 7),.v (.sl 8),.v (.int .i64),.v (.sl 9),.v (.sl 10),.v (.int .u8)],.row DV false,.row Fh false,.row Es false,.row Cc false,.row Ar false,.row Cc false,.row Ar false,.row Ar false,.row Ar false,.row Ht false]}
structure A_lG2 where
 j:Int
 k:Int
 can:Nat
 pin:Nat
 pc:Int
 won:Nat
 gvn:Nat
 aan:Nat
 fvn:Nat
 rr:Int
 lrn:Nat
 lpn:Nat
 ld:Int
 ban:Nat
 pan:Nat
 cl:Int
 ca:Row
 pi:Row
 wo:Row
 gv:Row
 aa:Row
 fv:Row
 lr:Row
 lp:Row
 ba:Row
 pa:Row
def eY(its:List It):Option A_lG2:=match its with|[.i j,.i k,.n can,.n pin,.i pc,.n won,.n gvn,.n aan,.n fvn,.i rr,.n lrn,.n lpn,.i ld,.n ban,.n pan,.i cl,.r ca,.r pi,.r wo,.r gv,.r aa,.r fv,.r lr,.r lp,.r ba,.r pa]=>some ⟨j,k,can,pin,pc,won,gvn,aan,fvn,rr,lrn,lpn,ld,ban,pan,cl,ca,pi,wo,gv,aa,fv,lr,lp,ba,pa⟩|_=>none
def pX(x:A_lG2):Bool:=x.j=0∧x.pin<=9223372036854775807
def c_lG2_iff{x:A_lG2}:=@Bl _ pX _ _ rfl x
def lG2:ScanL A_lG2:=⟨5,2,[1,3],[1,2],dS,eY,fun x j=>[.i (j:Int),.i x.k,.n x.can,.n x.pin,.i x.pc,.n x.won,.n x.gvn,.n x.aan,.n x.fvn,.i x.rr,.n x.lrn,.n x.lpn,.i x.ld,.n x.ban,.n x.pan,.i x.cl,.r x.ca,.r x.pi,.r x.wo,.r x.gv,.r x.aa,.r x.fv,.r x.lr,.r x.lp,.r x.ba,.r x.pa],fun x=>x.pin,pX,fun x j=>Uk (x.pi.R j 0),fun x j K=>K .ret ⟨us 1++[.pointer (some ⟨0,0,some 0⟩),.bool true]++us 80,[[]],[some (.box [.int .u8 x.k,S_ 1 0 x.can,S_ 2 0 x.pin,.int .u8 x.pc,S_ 3 0 x.won,S_ 4 0 x.gvn,S_ 5 0 x.aan,S_ 6 0 x.fvn,i64 x.rr,S_ 7 0 x.lrn,S_ 8 0 x.lpn,i64 x.ld,S_ 9 0 x.ban,S_ 10 0 x.pan,.int .u8 x.cl]),Au DV x.ca,Au Fh x.pi,Au Es x.wo,Au Cc x.gv,Au Ar x.aa,Au Cc x.fv,Au Ar x.lr,Au Ar x.lp,Au Ar x.ba,Au Ht x.pa]⟩,fun x K=>K (.exit 0) ⟨us 1++[.pointer (some ⟨0,0,some 0⟩)]++us 81,[[]],[some (.box [.int .u8 x.k,S_ 1 0 x.can,S_ 2 0 x.pin,.int .u8 x.pc,S_ 3 0 x.won,S_ 4 0 x.gvn,S_ 5 0 x.aan,S_ 6 0 x.fvn,i64 x.rr,S_ 7 0 x.lrn,S_ 8 0 x.lpn,i64 x.ld,S_ 9 0 x.ban,S_ 10 0 x.pan,.int .u8 x.cl]),Au DV x.ca,Au Fh x.pi,Au Es x.wo,Au Cc x.gv,Au Ar x.aa,Au Cc x.fv,Au Ar x.lr,Au Ar x.lp,Au Ar x.ba,Au Ht x.pa]⟩⟩
def oQ:Dl:={τ:=pu 1++[.v (.c (.pointer (some ⟨0,0,some 0⟩)))]++pu 2++[.v (.int .i64)]++pu 78,saved:=[[]],mem:=[.box [.v (.int .u8),.v (.sl 1),.v (.sl 2),.v (.int .u8),.v (.sl 3),.v (.sl 4),.v (.sl 5),.v (.sl 6),.v (.int .i64),.v (.sl 7),.v (.sl 8),.v (.int .i64),.v (.sl 9),.v (.sl 10),.v (.int .u8)],.row DV false,.row Fh false,.row Es false,.row Cc false,.row Ar false,.row Cc false,.row Ar false,.row Ar false,.row Ar false,.row Ht false]}
structure A_lG7 where
 j:Int
 k:Int
 can:Nat
 pin:Nat
 pc:Int
 won:Nat
 gvn:Nat
 aan:Nat
 fvn:Nat
 rr:Int
 lrn:Nat
 lpn:Nat
 ld:Int
 ban:Nat
 pan:Nat
 cl:Int
 ca:Row
 pi:Row
 wo:Row
 gv:Row
 aa:Row
 fv:Row
 lr:Row
 lp:Row
 ba:Row
 pa:Row
def lC(its:List It):Option A_lG7:=match its with|[.i j,.i k,.n can,.n pin,.i pc,.n won,.n gvn,.n aan,.n fvn,.i rr,.n lrn,.n lpn,.i ld,.n ban,.n pan,.i cl,.r ca,.r pi,.r wo,.r gv,.r aa,.r fv,.r lr,.r lp,.r ba,.r pa]=>some ⟨j,k,can,pin,pc,won,gvn,aan,fvn,rr,lrn,lpn,ld,ban,pan,cl,ca,pi,wo,gv,aa,fv,lr,lp,ba,pa⟩|_=>none
def dB(x:A_lG7):Bool:=x.j=0∧x.won<=9223372036854775807
def c_lG7_iff{x:A_lG7}:=@Bl _ dB _ _ rfl x
def lG7:ScanL A_lG7:=⟨5,7,[1,4],[1,2],oQ,lC,fun x j=>[.i (j:Int),.i x.k,.n x.can,.n x.pin,.i x.pc,.n x.won,.n x.gvn,.n x.aan,.n x.fvn,.i x.rr,.n x.lrn,.n x.lpn,.i x.ld,.n x.ban,.n x.pan,.i x.cl,.r x.ca,.r x.pi,.r x.wo,.r x.gv,.r x.aa,.r x.fv,.r x.lr,.r x.lp,.r x.ba,.r x.pa],fun x=>x.won,dB,fun x j=>decide (((x.wo.R j 0).n:Int)>20),fun x j K=>K .ret ⟨us 1++[.pointer (some ⟨0,0,some 0⟩),.bool true]++us 80,[[]],[some (.box [.int .u8 x.k,S_ 1 0 x.can,S_ 2 0 x.pin,.int .u8 x.pc,S_ 3 0 x.won,S_ 4 0 x.gvn,S_ 5 0 x.aan,S_ 6 0 x.fvn,i64 x.rr,S_ 7 0 x.lrn,S_ 8 0 x.lpn,i64 x.ld,S_ 9 0 x.ban,S_ 10 0 x.pan,.int .u8 x.cl]),Au DV x.ca,Au Fh x.pi,Au Es x.wo,Au Cc x.gv,Au Ar x.aa,Au Cc x.fv,Au Ar x.lr,Au Ar x.lp,Au Ar x.ba,Au Ht x.pa]⟩,fun x K=>K (.exit 2) ⟨us 1++[.pointer (some ⟨0,0,some 0⟩)]++us 81,[[]],[some (.box [.int .u8 x.k,S_ 1 0 x.can,S_ 2 0 x.pin,.int .u8 x.pc,S_ 3 0 x.won,S_ 4 0 x.gvn,S_ 5 0 x.aan,S_ 6 0 x.fvn,i64 x.rr,S_ 7 0 x.lrn,S_ 8 0 x.lpn,i64 x.ld,S_ 9 0 x.ban,S_ 10 0 x.pan,.int .u8 x.cl]),Au DV x.ca,Au Fh x.pi,Au Es x.wo,Au Cc x.gv,Au Ar x.aa,Au Cc x.fv,Au Ar x.lr,Au Ar x.lp,Au Ar x.ba,Au Ht x.pa]⟩⟩
noncomputable def CG:Cx:=AP Tryz.prog fns [(14,Ace),(15,Ahs),(16,Aj7),(17,eP),(18,Agt)] [lG2.C,lG7.C]
def Ad4(R:St->OD)(K:X->St->OD)(q:Nat)(j k:Int)(can pin:Nat)(pc:Int)(won gvn aan fvn:Nat)(rr:Int)(lrn lpn:Nat)(ld:Int)(ban pan:Nat)(cl:Int)(ca pi wo gv aa fv lr lp ba pa:Row):Ak CG 5 2 q (bst dS [.i j,.i k,.n can,.n pin,.i pc,.n won,.n gvn,.n aan,.n fvn,.i rr,.n lrn,.n lpn,.i ld,.n ban,.n pan,.i cl,.r ca,.r pi,.r wo,.r gv,.r aa,.r fv,.r lr,.r lp,.r ba,.r pa]) (BF [1,3] (some [1,2]) R K)=br (j<(pin:Int)) (br (0<=j&&j<(pin:Int)) (br (Uk (w_ (pi.R (0+j.toNat) 0) 0 (pi.R (0+j.toNat) 0).n)) (lG2.Kb ⟨j,k,can,pin,pc,won,gvn,aan,fvn,rr,lrn,lpn,ld,ban,pan,cl,ca,pi,wo,gv,aa,fv,lr,lp,ba,pa⟩ 0 K) (R (bst dS [.i (IntKind.i64.wrap (j+1)),.i k,.n can,.n pin,.i pc,.n won,.n gvn,.n aan,.n fvn,.i rr,.n lrn,.n lpn,.i ld,.n ban,.n pan,.i cl,.r ca,.r pi,.r wo,.r gv,.r aa,.r fv,.r lr,.r lp,.r ba,.r pa]))) none) (lG2.Ke ⟨j,k,can,pin,pc,won,gvn,aan,fvn,rr,lrn,lpn,ld,ban,pan,cl,ca,pi,wo,gv,aa,fv,lr,lp,ba,pa⟩ K):=k_
def Af5(R:St->OD)(K:X->St->OD)(q:Nat)(j k:Int)(can pin:Nat)(pc:Int)(won gvn aan fvn:Nat)(rr:Int)(lrn lpn:Nat)(ld:Int)(ban pan:Nat)(cl:Int)(ca pi wo gv aa fv lr lp ba pa:Row):Ak CG 5 7 q (bst oQ [.i j,.i k,.n can,.n pin,.i pc,.n won,.n gvn,.n aan,.n fvn,.i rr,.n lrn,.n lpn,.i ld,.n ban,.n pan,.i cl,.r ca,.r pi,.r wo,.r gv,.r aa,.r fv,.r lr,.r lp,.r ba,.r pa]) (BF [1,4] (some [1,2]) R K)=br (j<(won:Int)) (br (0<=j&&j<(won:Int)) (br ((↑(wo.R (0+j.toNat) 0).n:Int)>20) (lG7.Kb ⟨j,k,can,pin,pc,won,gvn,aan,fvn,rr,lrn,lpn,ld,ban,pan,cl,ca,pi,wo,gv,aa,fv,lr,lp,ba,pa⟩ 0 K) (R (bst oQ [.i (IntKind.i64.wrap (j+1)),.i k,.n can,.n pin,.i pc,.n won,.n gvn,.n aan,.n fvn,.i rr,.n lrn,.n lpn,.i ld,.n ban,.n pan,.i cl,.r ca,.r pi,.r wo,.r gv,.r aa,.r fv,.r lr,.r lp,.r ba,.r pa]))) none) (lG7.Ke ⟨j,k,can,pin,pc,won,gvn,aan,fvn,rr,lrn,lpn,ld,ban,pan,cl,ca,pi,wo,gv,aa,fv,lr,lp,ba,pa⟩ K):=k_
def uG(k:Int)(ca pi:Row)(pc:Int)(wo gv aa fv:Row)(rr:Int)(lr lp:Row)(ld:Int)(ba pa:Row)(cl:Int):BH CG 6 5 [TR k ca pi pc wo gv aa fv rr lr lp ld ba pa cl]=br (pX (⟨0,k,ca.n,pi.n,pc,wo.n,gv.n,aa.n,fv.n,rr,lr.n,lp.n,ld,ba.n,pa.n,cl,ca,pi,wo,gv,aa,fv,lr,lp,ba,pa⟩:A_lG2)) (br (Ag (fun j=>Uk (pi.R j 0)) pi.n 0) (some [.v (.bool true)]) (br (dB (⟨0,k,ca.n,pi.n,pc,wo.n,gv.n,aa.n,fv.n,rr,lr.n,lp.n,ld,ba.n,pa.n,cl,ca,pi,wo,gv,aa,fv,lr,lp,ba,pa⟩:A_lG7)) (br (Ag (fun j=>decide ((↑(wo.R j 0).n:Int)>20)) wo.n 0) (some [.v (.bool true)]) (br (decide ((w_ ca 0 ca.n).n<=9223372036854775807∧(w_ pi 0 pi.n).n<=9223372036854775807)) (br (gr6 (w_ ca 0 ca.n) (w_ pi 0 pi.n)) (some [.v (.bool true)]) (br ((wo.n:Int)>20) (some [.v (.bool true)]) (br ((w_ gv 0 gv.n).n=(w_ gv 0 gv.n).n) (br (WZ (w_ gv 0 gv.n) (w_ aa 0 aa.n)) (some [.v (.bool true)]) (br (X9 (w_ fv 0 fv.n) (w_ lr 0 lr.n) (w_ lp 0 lp.n)) (some [.v (.bool true)]) (br (grb (w_ ba 0 ba.n)) (some [.v (.bool true)]) (br ((pa.n:Int)>30) (br ((pa.n:Int)<=200) (some [.v (.bool true)]) (some [.v (.bool ((pa.n:Int)>210))])) (some [.v (.bool ((pa.n:Int)>210))]))))) none))) none)) none)) (none):=k_
def Alj:Ah CG lG2.C:=lG2.ok k_
 (fun its x h hc=>by
  replace h:eY its=some x:=h;unfold eY at h;split at h
  ·cases h;have h:=c_lG2_iff.1 hc;dsimp only at h;obtain⟨rfl,_⟩:=h;rfl
  ·cases h)
 (fun x hc=>by have:=c_lG2_iff.1 hc;show x.pin<2^64;omega)
 (fun q ⟨j0,k,can,pin,pc,won,gvn,aan,fvn,rr,lrn,lpn,ld,ban,pan,cl,ca,pi,wo,gv,aa,fv,lr,lp,ba,pa⟩ j hc hi R K=>by
  obtain⟨h1,h2⟩:=c_lG2_iff.1 hc;dsimp only at*
  replace hi:j<pin:=hi;refine(Ad4 R K q ((j:Int)) k can pin pc won gvn aan fvn rr lrn lpn ld ban pan cl ca pi wo gv aa fv lr lp ba pa).trans ?_;rw[A9 j,AE j,gd j pin hi,DX j pin hi,wsL o_];unfold Uk;rw[wn_];rfl)
 (fun q ⟨j0,k,can,pin,pc,won,gvn,aan,fvn,rr,lrn,lpn,ld,ban,pan,cl,ca,pi,wo,gv,aa,fv,lr,lp,ba,pa⟩ hc R K=>by
  obtain⟨h1,h2⟩:=c_lG2_iff.1 hc;dsimp only at*
  refine(Ad4 R K q ((pin:Int)) k can pin pc won gvn aan fvn rr lrn lpn ld ban pan cl ca pi wo gv aa fv lr lp ba pa).trans ?_;rw[EU pin];rfl)
def Ale:Ah CG lG7.C:=lG7.ok k_
 (fun its x h hc=>by
  replace h:lC its=some x:=h;unfold lC at h;split at h
  ·cases h;have h:=c_lG7_iff.1 hc;dsimp only at h;obtain⟨rfl,_⟩:=h;rfl
  ·cases h)
 (fun x hc=>by have:=c_lG7_iff.1 hc;show x.won<2^64;omega)
 (fun q ⟨j0,k,can,pin,pc,won,gvn,aan,fvn,rr,lrn,lpn,ld,ban,pan,cl,ca,pi,wo,gv,aa,fv,lr,lp,ba,pa⟩ j hc hi R K=>by
  obtain⟨h1,h2⟩:=c_lG7_iff.1 hc;dsimp only at*
  replace hi:j<won:=hi;refine(Af5 R K q ((j:Int)) k can pin pc won gvn aan fvn rr lrn lpn ld ban pan cl ca pi wo gv aa fv lr lp ba pa).trans ?_;rw[A9 j,AE j,gd j won hi,DX j won hi,wsL o_];rfl)
 (fun q ⟨j0,k,can,pin,pc,won,gvn,aan,fvn,rr,lrn,lpn,ld,ban,pan,cl,ca,pi,wo,gv,aa,fv,lr,lp,ba,pa⟩ hc R K=>by
  obtain⟨h1,h2⟩:=c_lG7_iff.1 hc;dsimp only at*
  refine(Af5 R K q ((won:Int)) k can pin pc won gvn aan fvn rr lrn lpn ld ban pan cl ca pi wo gv aa fv lr lp ba pa).trans ?_;rw[EU won];rfl)
def gpn(r:Row):Bool:=(decide ((r.n:Int)>30)&&decide ((r.n:Int)<=200))||decide ((r.n:Int)>210)
def grX(x:Dc):Bool:=Ag (fun j=>Uk (x.pi.R j 0)) x.pi.n 0||(Ag (fun j=>decide (((x.wo.R j 0).n:Int)>20)) x.wo.n 0||(gr6 (Ae x.ca) (Ae x.pi)||(decide ((x.wo.n:Int)>20)||(WZ (Ae x.gv) (Ae x.aa)||(X9 (Ae x.fv) (Ae x.lr) (Ae x.lp)||(grb (Ae x.ba)||gpn x.pa))))))
def grC(x:Dc):Bool:=x.ca.n<=9223372036854775807∧x.pi.n<=9223372036854775807∧x.wo.n<=9223372036854775807
def Aq3:FD
 |[d]=>match Fe d with
  |some x=>some (grC x,[.v (.bool (grX x))])
  |none=>none
 |_=>none
def Anb:Be CG:=Aj enter mixed (Aw Ym<|Aw Acf<|Aw zX<|Aw vH<|Aw zC AX) (Aw Alj<|Aw Ale AX)
def P7{c b:Bool}{t:OD}(h:t=some [D.v (.bool b)]):br c (some [D.v (.bool true)]) t=some [D.v (.bool (c||b))]:=by rw[h];cases c<;>rfl
def den_grX:Den Tryz.prog 5 Aq3:=Af Anb fun ds rs h=>by
 unfold Aq3 at h;split at h
 ·split at h
  ·rename_i x hx;simp only[A5,A6]at h;obtain⟨h0,rfl⟩:=h;obtain⟨h1,h2,h3⟩:=AD h0;rw[CZ hx];refine(uG x.k x.ca x.pi x.pc x.wo x.gv x.aa x.fv x.rr x.lr x.lp x.ld x.ba x.pa x.cl).trans ?_;rw[c_lG2_iff.2 ⟨rfl,h2⟩,Aa,c_lG7_iff.2 ⟨rfl,h3⟩,Aa];show br (Ag (fun j=>Uk (x.pi.R j 0)) x.pi.n 0) _ (br (Ag (fun j=>decide (((x.wo.R j 0).n:Int)>20)) x.wo.n 0) _ (br (decide ((w_ x.ca 0 x.ca.n).n<=9223372036854775807∧(w_ x.pi 0 x.pi.n).n<=9223372036854775807)) (br (gr6 (Ae x.ca) (Ae x.pi)) _ (br (decide ((x.wo.n:Int)>20)) _ (br (decide ((w_ x.gv 0 x.gv.n).n=(w_ x.gv 0 x.gv.n).n)) (br (WZ (Ae x.gv) (Ae x.aa)) _ (br (X9 (Ae x.fv) (Ae x.lr) (Ae x.lp)) _ (br (grb (Ae x.ba)) _ (br (decide ((x.pa.n:Int)>30)) (br (decide ((x.pa.n:Int)<=200)) _ _) _)))) none))) none))=some [D.v (.bool (Ag (fun j=>Uk (x.pi.R j 0)) x.pi.n 0||(Ag (fun j=>decide (((x.wo.R j 0).n:Int)>20)) x.wo.n 0||(gr6 (Ae x.ca) (Ae x.pi)||(decide ((x.wo.n:Int)>20)||(WZ (Ae x.gv) (Ae x.aa)||(X9 (Ae x.fv) (Ae x.lr) (Ae x.lp)||(grb (Ae x.ba)||gpn x.pa))))))))];rw[A4 (show(w_ x.ca 0 x.ca.n).n<=9223372036854775807∧(w_ x.pi 0 x.pi.n).n<=9223372036854775807 by rw[wn_,wn_];exact⟨h1,h2⟩),Aa,A4 (rfl:(w_ x.gv 0 x.gv.n).n=_),Aa];refine P7 (P7 (P7 (P7 (P7 (P7 (P7 ?_))))));unfold gpn;cases decide ((x.pa.n:Int)>30)<;>cases decide ((x.pa.n:Int)<=200)<;>rfl
  ·cases h
 ·cases h
def SmP(x y:Dc):Prop:=(x.k=y.k∧x.cl=y.cl∧x.pc=y.pc∧x.rr=y.rr∧x.ld=y.ld)∧(x.ca.n=y.ca.n∧x.ca.n<=1000000∧CkE x.ca y.ca x.ca.n)∧(x.pi.n=y.pi.n∧x.pi.n<=1000000∧Qv 4 x.pi y.pi x.pi.n)∧(x.wo.n=y.wo.n∧x.wo.n<=1000000∧Qv 2 x.wo y.wo x.wo.n)∧(x.gv.n=y.gv.n∧x.gv.n<=1000000∧Qv 1 x.gv y.gv x.gv.n)∧(x.aa.n<=1000000∧Hu 1 x.aa y.aa)∧(x.fv.n=y.fv.n∧x.fv.n<=1000000∧Qv 1 x.fv y.fv x.fv.n)∧(x.lr.n<=1000000∧Hu 1 x.lr y.lr)∧(x.lp.n<=1000000∧Hu 1 x.lp y.lp)∧(x.ba.n<=1000000∧Hu 1 x.ba y.ba)∧(x.pa.n<=1000000∧Hu 3 x.pa y.pa)
instance(x y:Dc):Decidable (SmP x y):=by unfold SmP;infer_instance
def smB(x y:Dc):Bool:=SmP x y
def Apr:FD
 |[d,e]=>match Fe d,Fe e with
  |some x,some y=>some (smB x y,[.v (.bool true)])
  |_,_=>none
 |_=>none
def Ahg:Be Crs:=Aj enter mixed (Aw Ah6<|Aw Ag0<|Aw Afw<|Aw Ak5<|Aw yN<|Aw zH<|Aw Aft<|Aw Ahj AX) (Aw Amc AX)
def rww{m:Nat}{r s:Row}(h:r.n=s.n∧r.n<=1000000∧Qv m r s r.n):(w_ r 0 r.n).n=(w_ s 0 s.n).n∧(w_ r 0 r.n).n<=1000000∧Qv m (w_ r 0 r.n) (w_ s 0 s.n) (w_ r 0 r.n).n:=by
 refine⟨by rw[wn_,wn_];exact h.1,by rw[wn_];exact h.2.1,fun i hi=>?_⟩;rw[wn_]at hi;exact h.2.2 i hi
def den_smX:Den Tryz.prog 12 Apr:=Af Ahg fun ds rs h=>by
 unfold Apr at h;split at h
 ·split at h
  ·rename_i x y hx hy;simp only[A5,A6]at h;obtain⟨h0,rfl⟩:=h;obtain⟨⟨e1,e2,e3,e4,e5⟩,⟨e6,e7,e8⟩,e9,e10,e11,e12,e13,e14,e15,e16,e17⟩:=AD h0;rw[CZ hx,CZ hy];refine(urs x.k x.ca x.pi x.pc x.wo x.gv x.aa x.fv x.rr x.lr x.lp x.ld x.ba x.pa x.cl y.k y.ca y.pi y.pc y.wo y.gv y.aa y.fv y.rr y.lr y.lp y.ld y.ba y.pa y.cl).trans ?_;rw[EZ e1,Ac,EZ e2,Ac,EZ e3,Ac,zQ e6,Ac,A4 (rww e9),Aa,A4 (rww e10),Aa,c_lrs_iff.2 ⟨rfl,e6.symm,e7,e8⟩,Aa,any0,Ac];show br (decide ((w_ x.gv 0 x.gv.n).n=(w_ y.gv 0 y.gv.n).n∧(w_ x.gv 0 x.gv.n).n<=1000000∧Qv 1 (w_ x.gv 0 x.gv.n) (w_ y.gv 0 y.gv.n) (w_ x.gv 0 x.gv.n).n)) (br (decide ((w_ x.aa 0 x.aa.n).n<=1000000∧Hu 1 (w_ x.aa 0 x.aa.n) (w_ y.aa 0 y.aa.n))) (br (decide ((w_ x.fv 0 x.fv.n).n=(w_ y.fv 0 y.fv.n).n∧(w_ x.fv 0 x.fv.n).n<=1000000∧Qv 1 (w_ x.fv 0 x.fv.n) (w_ y.fv 0 y.fv.n) (w_ x.fv 0 x.fv.n).n)) (br (x.rr !=y.rr) _ (br (decide (x.ld=y.ld∧(w_ x.lr 0 x.lr.n).n<=1000000∧(w_ x.lp 0 x.lp.n).n<=1000000∧Hu 1 (w_ x.lr 0 x.lr.n) (w_ y.lr 0 y.lr.n)∧Hu 1 (w_ x.lp 0 x.lp.n) (w_ y.lp 0 y.lp.n))) (br (decide ((w_ x.ba 0 x.ba.n).n<=1000000∧Hu 1 (w_ x.ba 0 x.ba.n) (w_ y.ba 0 y.ba.n))) (br (decide ((w_ x.pa 0 x.pa.n).n<=1000000∧Hu 3 (w_ x.pa 0 x.pa.n) (w_ y.pa 0 y.pa.n))) _ none) none) none)) none) none) none=_;rw[A4 (rww e11),Aa,A4 (Vw e12),Aa,A4 (rww e13),Aa,EZ e4,Ac,A4 ⟨e5,(Vw e14).1,(Vw e15).1,(Vw e14).2,(Vw e15).2⟩,Aa,A4 (Vw e16),Aa,A4 (Vw e17),Aa]
  ·cases h
 ·cases h
open Go.Lib Go.RowKit
def rwW(w:Y_)(r:Row):Row:=.mk r.n r.I r.B (fun e j=>match e with|0=>w|e+1=>r.S (e+1) j) r.R
def vT(sR:Y_->Row)(w:Y_):FD
 |[.v (.string s),.v (.string p)]=>some (decide (s.size<4294967281)&&(p.toList==sSpc.toList)&&(((sR s).S 0 0).toList==w.toList),[.slice [.str] (rwW w (sR s))])
 |_=>none
structure Px where
 k:Int
 ca:Row
 pi:Row
 pc:Int
 wo:Row
 gv:Row
 aa:Row
 fv:Row
 rr:Int
 lr:Row
 lp:Row
 lpo:Nat
 lpn:Nat
 ld:Int
 ba:Row
 pa:Row
 cl:Int
def Pq(x:Px):M_:=[some (.box [.int .u8 0,.slice none 0 0,.slice none 0 0,.int .u8 0,.slice none 0 0,.slice none 0 0,.slice none 0 0,.slice none 0 0,i64 0,.slice none 0 0,.slice none 0 0,i64 0,.slice none 0 0,.slice none 0 0,.int .u8 0]),some (.box [.int .u8 x.k,S_ 2 0 x.ca.n,S_ 3 0 x.pi.n,.int .u8 x.pc,S_ 4 0 x.wo.n,S_ 5 0 x.gv.n,S_ 6 0 x.aa.n,S_ 7 0 x.fv.n,i64 x.rr,S_ 8 0 x.lr.n,S_ 9 x.lpo x.lpn,i64 x.ld,S_ 10 0 x.ba.n,S_ 11 0 x.pa.n,.int .u8 x.cl]),N7 DV x.ca,N7 Fh x.pi,N7 Es x.wo,N7 Cc x.gv,Ij Ar x.aa,N7 Cc x.fv,Ij Ar x.lr,Ij Ar x.lp,Ij Ar x.ba,Ij Ht x.pa]
def An7(x:Px):St:={τ:=[bx0,bx1],saved:=[],mem:=Pq x}
def bH(sR:Y_->Row):FD
 |[.v (.string s),.v (.string p)]=>some (decide (s.size<4294967281)&&(p.toList==sSpc.toList),[.slice [.str] (sR s)])
 |_=>none
noncomputable def JX(sR:Y_->Row)(nC:Row->Bool)(nR:Row->Row)(nB qC:Row->Bool)(qR:Row->Row)(qB:Row->Bool)(w:Y_):Cx:=AP Tryz.prog fns [(70,vT sR w),(72,JY nC nR nB),(115,Ko qC qR qB)] []
def noW(o:Oper):Bool:=match o.op with|.binOp .eql _ _ (.const (.string _)) _=>true|_=>false
noncomputable def Cno(sR:Y_->Row)(nC:Row->Bool)(nR:Row->Row)(nB qC:Row->Bool)(qR:Row->Row)(qB:Row->Bool):Cx:={AP Tryz.prog fns [(70,bH sR),(72,JY nC nR nB),(115,Ko qC qR qB)] []with no:=noW}
def PH(o l:Row):Row:=(w_ o 0 o.n).app (w_ ((((Row.zeros 1).setI 0 0 (l.I 0 0)).setR 0 1 (w_ l 1 (l.n/2))).setR 0 2 (w_ l (0+(l.n/2+1)) (l.n-(l.n/2+1)))) 0 1)
def Ny(o l:Row):Row:=(w_ o 0 o.n).app (w_ ((((Row.zeros 1).setI 0 0 (l.I 0 0)).setI 0 1 (l.I 1 0)).setI 0 2 (l.I 2 0)) 0 1)
def g0(l:Row)(t:OD):OD:=br (decide ((0:Int)<=0)&&decide (0<(l.n:Int))) t none
def gn:Nat->Row->OD->OD
 |0,_,t=>t
 |n+1,r,t=>g0 r (gn n r t)
def Qd(l:Row):Int:=IntKind.i64.wrap (IntKind.i64.wrap ((l.n:Int).tdiv 2)+1)
def tlW(r:Row)(t:OD):OD:=br (decide (0<=(r.n:Int))&&decide ((r.n:Int)<=(r.n:Int))) (br (decide ((0:Int)<=1)&&decide ((1:Int)<=(((r.n:Int).toNat:Nat):Int))) t none) none
noncomputable def NC(C:Cx)(K:Value->St->OD)(ln:Y_)(x:Px):OD:=inl C 8 28 [bx1,.string ln] (An7 x) (fun v s=>K v (Nh [0,1] s))
section
variable(sR:Y_->Row)(nC:Row->Bool)(nR:Row->Row)(nB qC:Row->Bool)(qR:Row->Row)(qB:Row->Bool)(K:Value->St->OD)(ln:Y_)(x:Px)
def kR(b:Bool)(y:Px):OD:=K (.bool b) (An7 y)
def J7(t:Row)(f:Row->(Bool->Px->OD)->OD):OD:=br (nC t) (br (!nB t) (kR K false x) (f (nR t) (kR K))) none
def aU(w:Y_)(n:Nat)(T:Row->OD):OD:=br (decide (ln.size<4294967281)&&sSpc.toList==sSpc.toList&&((sR ln).S 0 0).toList==w.toList) (gn n (rwW w (sR ln)) (tlW (rwW w (sR ln)) (T (rwW w (sR ln))))) none
set_option maxRecDepth 100000
def Ao1:NC (JX sR nC nR nB qC qR qB sGive) K ln x=aU sR ln sGive 2 fun r=>J7 nC nR nB K x (BG r) fun l k=>gn 4 r (k true {x with aa:=l}):=k_
def Ahq:NC (JX sR nC nR nB qC qR qB sRooms) K ln x=aU sR ln sRooms 2 fun r=>J7 nC nR nB K x (BG r) fun l k=>gn 6 r (k true {x with lr:=l}):=k_
def Zm:NC (JX sR nC nR nB qC qR qB sBalances) K ln x=aU sR ln sBalances 2 fun r=>J7 nC nR nB K x (BG r) fun l k=>gn 8 r (k true {x with ba:=l}):=k_
def yG:NC (JX sR nC nR nB qC qR qB sValues) K ln x=aU sR ln sValues 2 fun r=>J7 nC nR nB K x (BG r) fun l k=>gn 2 r (br (x.k==2) (br (x.gv.n+1<=10000000000) (k true {x with gv:=Em x.gv (Ae l)}) none) (g0 r (br (x.fv.n+1<=10000000000) (k true {x with fv:=Em x.fv (Ae l)}) none))):=k_
def Apw:NC (JX sR nC nR nB qC qR qB sRent) K ln x=aU sR ln sRent 2 fun r=>J7 nC nR nB K x (BG r) fun l k=>gn 5 r (br ((l.n:Int)==1) (g0 l (k true {x with rr:=l.I 0 0})) (gn 5 r (k false x))):=k_
def Ac5:NC (JX sR nC nR nB qC qR qB sPrices) K ln x=aU sR ln sPrices 2 fun r=>J7 nC nR nB K x (BG r) fun l k=>gn 7 r (br ((l.n:Int)>0) (g0 l (br (0<=(l.n:Int)&&(l.n:Int)<=(l.n:Int)) (br ((0:Int)<=1&&(1:Int)<=(((l.n:Int).toNat:Nat):Int)) (k true {x with ld:=l.I 0 0,lp:=l,lpo:=1,lpn:=(l.n:Int).toNat-1}) none) none)) (gn 3 r (k false x))):=k_
def Aqr:NC (JX sR nC nR nB qC qR qB sPay) K ln x=aU sR ln sPay 2 fun r=>J7 nC nR nB K x (BG r) fun l k=>gn 9 r (br ((l.n:Int)==3) (g0 l (br ((0:Int)<=1&&1<(l.n:Int)) (br ((0:Int)<=2&&2<(l.n:Int)) (br (x.pa.n+1<=10000000000) (k true {x with pa:=Ny x.pa l}) none) none) none)) (gn 1 r (k false x))):=k_
def Aav:NC (JX sR nC nR nB qC qR qB sClaims) K ln x=aU sR ln sClaims 2 fun r=>J7 nC nR nB K x (BG r) fun l k=>gn 10 r (br ((l.n:Int)==1) (g0 l (br (l.I 0 0>=0) (g0 l (br (l.I 0 0<=31) (br (x.k==1) (g0 l (k true {x with pc:=IntKind.u8.wrap (l.I 0 0)})) (g0 l (k true {x with cl:=IntKind.u8.wrap (l.I 0 0)}))) (k false x))) (k false x))) (k false x)):=k_
def Aoy:NC (JX sR nC nR nB qC qR qB sCake) K ln x=aU sR ln sCake 2 fun r=>J7 nC nR nB K x (BG r) fun l k=>g0 r (br ((l.n:Int)>=2) (br ((l.n:Int).tmod 2==0) (g0 l (br (0<=Qd l&&Qd l<=(l.n:Int)) (br (0<=Qd l&&Qd l<=Qd l) (br ((0:Int)<=1&&(1:Int)<=(((Qd l).toNat:Nat):Int)) (br (0<=(l.n:Int)&&(l.n:Int)<=(l.n:Int)) (br (0<=Qd l&&Qd l<=(((l.n:Int).toNat:Nat):Int)) (br (x.ca.n+1<=10000000000) (k true {x with ca:=(w_ x.ca 0 x.ca.n).app (w_ ((((Row.zeros 1).setI 0 0 (l.I 0 0)).setR 0 1 (w_ l 1 ((Qd l).toNat-1))).setR 0 2 (w_ l (0+(Qd l).toNat) ((l.n:Int).toNat-(Qd l).toNat))) 0 1)}) none) none) none) none) none) none)) (gn 9 r (k false x))) (gn 9 r (k false x))):=k_
def Akq:NC (JX sR nC nR nB qC qR qB sWorth) K ln x=aU sR ln sWorth 3 fun r=>br (qC (BG r)) (br (!qB (BG r)) (kR K false x) (br (x.wo.n+1<=10000000000) (kR K true {x with wo:=Em x.wo (Ae (qR (BG r)))}) none)) none:=k_
def nW(r:Row)(w:Y_)(t:OD):OD:=g0 r (br ((r.S 0 0).toList==w.toList) none t)
def Ap0:NC (Cno sR nC nR nB qC qR qB) K ln x=br (ln.size<4294967281&&sSpc.toList==sSpc.toList) (nW (sR ln) sPiece (nW (sR ln) sWorth (tlW (sR ln) (J7 nC nR nB K x (BG (sR ln)) fun l k=>(fun r=>nW r sCake (nW r sValues (nW r sValues (nW r sGive (nW r sRent (nW r sRooms (nW r sPrices (nW r sBalances (nW r sPay (nW r sClaims (k false x))))))))))) (sR ln))))) none:=k_
end
def WG(r:Row)(a b c d:Int):Row:=(w_ r 0 r.n).app (w_ (((((Row.zeros 1).setI 0 0 a).setI 0 1 b).setI 0 2 c).setI 0 3 d) 0 1)
def Yw:Dl:={τ:=[.v (.c (.pointer (some ⟨0,0,some 0⟩)))]++pu 6++[.v (.slw 1)]++pu 1++[.v (.sl 2)]++pu 51,saved:=[[.v (.c (.pointer (some ⟨0,0,some 0⟩))),.v (.str)]++pu 2++[.v (.c (.bool false)),.v (.sl 3)]++pu 3++[.v (.str),.v (.sl 3),.v (.sl 3),.v (.c (.pointer (some ⟨3,0,some 0⟩))),.v (.str),.v (.bool),.v (.c (.bool true))]++pu 4++[.v (.c (.bool true)),.v (.c (.pointer (some ⟨0,0,some 0⟩))),.v (.sl 3),.v (.c (.pointer (some ⟨3,0,some 0⟩))),.v (.str),.v (.sl 3),.v (.slw 3)]++pu 228,[.v (.c (.pointer (some ⟨4,0,some 0⟩))),.v (.c (.pointer (some ⟨0,0,some 0⟩)))]],mem:=[.box [.v (.int .u8),.v (.sl 5),.v (.sl 6),.v (.int .u8),.v (.sl 7),.v (.sl 8),.v (.sl 9),.v (.sl 10),.v (.int .i64),.v (.sl 11),.v (.slw 12),.v (.int .i64),.v (.sl 13),.v (.sl 14),.v (.int .u8)],.row JD true,.row Qw true,.row [.str] true,.box [.v (.c (.int .u8 0)),.v (.c (.slice none 0 0)),.v (.c (.slice none 0 0)),.v (.c (.int .u8 0)),.v (.c (.slice none 0 0)),.v (.c (.slice none 0 0)),.v (.c (.slice none 0 0)),.v (.c (.slice none 0 0)),.v (.c (.int .i64 0)),.v (.c (.slice none 0 0)),.v (.c (.slice none 0 0)),.v (.c (.int .i64 0)),.v (.c (.slice none 0 0)),.v (.c (.slice none 0 0)),.v (.c (.int .u8 0))],.deep DV,.deep Fh,.deep Es,.deep Cc,.row Ar true,.deep Cc,.row Ar true,.row Ar true,.row Ar true,.row Ht true]}
structure A_lrr where
 off:Nat
 wl:Nat
 xn:Nat
 ln:Y_
 wn:Nat
 ln_2:Y_
 wn_2:Nat
 wn_3:Nat
 w0:Y_
 b1:Bool
 wn_4:Nat
 w0_2:Y_
 wn_5:Nat
 o1:Nat
 wm:Nat
 k:Int
 can:Nat
 pin:Nat
 pc:Int
 won:Nat
 gvn:Nat
 aan:Nat
 fvn:Nat
 rr:Int
 lrn:Nat
 lpo:Nat
 lpn:Nat
 ld:Int
 ban:Nat
 pan:Nat
 cl:Int
 qq:Row
 sr:Row
 wr:Row
 ca:Row
 pi:Row
 wo:Row
 gv:Row
 aa:Row
 fv:Row
 lr:Row
 lp:Row
 ba:Row
 pa:Row
def uY(its:List It):Option A_lrr:=match its with|(.n off::.n wl::.n xn::.s ln::.n wn::.s ln_2::.n wn_2::.n wn_3::.s w0::.b b1::.n wn_4::.s w0_2::.n wn_5::.n o1::.n wm::.i k::.n can::.n pin::.i pc::.n won::.n gvn::.n aan::.n fvn::.i rr::.n lrn::.n lpo::.n lpn::.i ld::.n ban::.n pan::.i cl::.r qq::.r sr::.r wr::.r ca::.r pi::.r wo::.r gv::.r aa::.r fv::.r lr::.r lp::.r ba::.r pa::[])=>some ⟨off,wl,xn,ln,wn,ln_2,wn_2,wn_3,w0,b1,wn_4,w0_2,wn_5,o1,wm,k,can,pin,pc,won,gvn,aan,fvn,rr,lrn,lpo,lpn,ld,ban,pan,cl,qq,sr,wr,ca,pi,wo,gv,aa,fv,lr,lp,ba,pa⟩|_=>none
def nU(x:A_lrr):Bool:=x.ln_2=x.ln∧x.wn_2=x.wn∧x.wn_3=x.wn∧x.wn_4=x.wn∧x.w0_2=x.w0∧x.wn_5=x.wn∧x.off=0∧x.wl=x.qq.n∧x.xn=x.sr.n∧x.qq.n<=1000000∧x.sr.n=0
def c_lrr_iff{x:A_lrr}:=@Bl _ nU _ _ rfl x
def lrr:FoldL A_lrr (Row):=⟨71,8,[0,7,9,8039080009],[0,6,7,9],Yw,uY,fun x j a=>(.n (2*j)::.n (x.qq.n-2*j)::.n (a.n)::.s x.ln::.n x.wn::.s x.ln::.n x.wn::.n x.wn::.s x.w0::.b x.b1::.n x.wn::.s x.w0::.n x.wn::.n x.o1::.n x.wm::.i x.k::.n x.can::.n x.pin::.i x.pc::.n x.won::.n x.gvn::.n x.aan::.n x.fvn::.i x.rr::.n x.lrn::.n x.lpo::.n x.lpn::.i x.ld::.n x.ban::.n x.pan::.i x.cl::.r x.qq::.r (a)::.r x.wr::.r x.ca::.r x.pi::.r x.wo::.r x.gv::.r x.aa::.r x.fv::.r x.lr::.r x.lp::.r x.ba::.r x.pa::[]),fun x=>x.qq.n/2,nU,fun x=>x.sr,fun x j a=>WG a (x.qq.I (2*j) 0) (x.qq.I (2*j) 1) (x.qq.I (2*j+1) 0) (x.qq.I (2*j+1) 1),fun x a K=>K (.exit 0) (bst Yw (.n (2*(x.qq.n/2))::.n (x.qq.n-2*(x.qq.n/2))::.n (a.n)::.s x.ln::.n x.wn::.s x.ln::.n x.wn::.n x.wn::.s x.w0::.b x.b1::.n x.wn::.s x.w0::.n x.wn::.n x.o1::.n x.wm::.i x.k::.n x.can::.n x.pin::.i x.pc::.n x.won::.n x.gvn::.n x.aan::.n x.fvn::.i x.rr::.n x.lrn::.n x.lpo::.n x.lpn::.i x.ld::.n x.ban::.n x.pan::.i x.cl::.r x.qq::.r (a)::.r x.wr::.r x.ca::.r x.pi::.r x.wo::.r x.gv::.r x.aa::.r x.fv::.r x.lr::.r x.lp::.r x.ba::.r x.pa::[]))⟩
noncomputable def Cpi(sR:Y_->Row)(nC:Row->Bool)(nR:Row->Row)(nB qC:Row->Bool)(qR:Row->Row)(qB:Row->Bool)(w:Y_):Cx:=AP Tryz.prog fns [(70,vT sR w),(72,JY nC nR nB),(115,Ko qC qR qB)] [lrr.C]
def Ads(sR:Y_->Row)(nC:Row->Bool)(nR:Row->Row)(nB qC:Row->Bool)(qR:Row->Row)(qB:Row->Bool)(ww:Y_)(R:St->OD)(K:X->St->OD)(q off wl xn:Nat)(ln:Y_)(wn:Nat)(ln_2:Y_)(wn_2 wn_3:Nat)(w0:Y_)(b1:Bool)(wn_4:Nat)(w0_2:Y_)(wn_5 o1 wm:Nat)(k:Int)(can pin:Nat)(pc:Int)(won gvn aan fvn:Nat)(rr:Int)(lrn lpo lpn:Nat)(ld:Int)(ban pan:Nat)(cl:Int)(qq sr wr ca pi wo gv aa fv lr lp ba pa:Row):Ak (Cpi sR nC nR nB qC qR qB ww) 71 8 q (bst Yw (.n off::.n wl::.n xn::.s ln::.n wn::.s ln_2::.n wn_2::.n wn_3::.s w0::.b b1::.n wn_4::.s w0_2::.n wn_5::.n o1::.n wm::.i k::.n can::.n pin::.i pc::.n won::.n gvn::.n aan::.n fvn::.i rr::.n lrn::.n lpo::.n lpn::.i ld::.n ban::.n pan::.i cl::.r qq::.r sr::.r wr::.r ca::.r pi::.r wo::.r gv::.r aa::.r fv::.r lr::.r lp::.r ba::.r pa::[])) (BF [0,7,9,8039080009] (some [0,6,7,9]) R K)=br ((wl:Int)>=2) (br ((0:Int)<=0&&0<(wl:Int)) (br (0<=1&&1<(wl:Int)) (br (xn+(w_ (((((Row.zeros 1).setI 0 0 (qq.I (off+0) 0)).setI 0 1 (qq.I (off+0) 1)).setI 0 2 (qq.I (off+1) 0)).setI 0 (0+1+1+1) (qq.I (off+1) 1)) 0 1).n<=10000000000) (br (0<=(wl:Int)&&(wl:Int)<=(wl:Int)) (br (0<=2&&2<=(↑(wl:Int).toNat:Int)) (R (bst Yw (.n (off+2)::.n ((wl:Int).toNat-2)::.n (xn+1)::.s (ln)::.n (wn)::.s (ln_2)::.n (wn_2)::.n (wn_3)::.s (w0)::.b (b1)::.n (wn_4)::.s (w0_2)::.n (wn_5)::.n (o1)::.n (wm)::.i (k)::.n (can)::.n (pin)::.i (pc)::.n (won)::.n (gvn)::.n (aan)::.n (fvn)::.i (rr)::.n (lrn)::.n (lpo)::.n (lpn)::.i (ld)::.n (ban)::.n (pan)::.i (cl)::.r (qq)::.r ((w_ sr 0 xn).app (w_ (((((Row.zeros 1).setI 0 0 (qq.I (off+0) 0)).setI 0 1 (qq.I (off+0) 1)).setI 0 2 (qq.I (off+1) 0)).setI 0 3 (qq.I (off+1) 1)) 0 1))::.r (wr)::.r (ca)::.r (pi)::.r (wo)::.r (gv)::.r (aa)::.r (fv)::.r (lr)::.r (lp)::.r (ba)::.r (pa)::[]))) none) none) none) none) none) (K (.exit 0) ⟨[.pointer (some ⟨0,0,some 0⟩)]++us 6++[S_ 1 off wl]++us 1++[S_ 2 0 xn]++us 51,[[.pointer (some ⟨0,0,some 0⟩),.string ln]++us 2++[.bool false,S_ 3 0 wn]++us 3++[.string ln_2,S_ 3 0 wn_2,S_ 3 0 wn_3,.pointer (some ⟨3,0,some 0⟩),.string w0,.bool b1,.bool true]++us 4++[.bool true,.pointer (some ⟨0,0,some 0⟩),S_ 3 0 wn_4,.pointer (some ⟨3,0,some 0⟩),.string w0_2,S_ 3 0 wn_5,S_ 3 o1 wm]++us 228,[.pointer (some ⟨4,0,some 0⟩),.pointer (some ⟨0,0,some 0⟩)]],[some (.box [.int .u8 k,S_ 5 0 can,S_ 6 0 pin,.int .u8 pc,S_ 7 0 won,S_ 8 0 gvn,S_ 9 0 aan,S_ 10 0 fvn,i64 rr,S_ 11 0 lrn,S_ 12 lpo lpn,i64 ld,S_ 13 0 ban,S_ 14 0 pan,.int .u8 cl]),Ij JD qq,Ij Qw sr,some (.row [.str] true wr),some (.box [.int .u8 0,.slice none 0 0,.slice none 0 0,.int .u8 0,.slice none 0 0,.slice none 0 0,.slice none 0 0,.slice none 0 0,i64 0,.slice none 0 0,.slice none 0 0,i64 0,.slice none 0 0,.slice none 0 0,.int .u8 0]),N7 DV ca,N7 Fh pi,N7 Es wo,N7 Cc gv,Ij Ar aa,N7 Cc fv,Ij Ar lr,Ij Ar lp,Ij Ar ba,Ij Ht pa]⟩):=k_
def Ajo(sR:Y_->Row)(nC:Row->Bool)(nR:Row->Row)(nB qC:Row->Bool)(qR:Row->Row)(qB:Row->Bool)(ww:Y_):Ah (Cpi sR nC nR nB qC qR qB ww) lrr.C:=lrr.ok (fun x j a=>a.n=j) k_
 (fun its x h hc=>by
  replace h:uY its=some x:=h;unfold uY at h;split at h
  ·cases h;have h:=c_lrr_iff.1 hc;dsimp only at h;obtain⟨rfl,rfl,rfl,rfl,rfl,rfl,rfl,rfl,rfl,_⟩:=h;rfl
  ·cases h)
 (fun x hc=>by have:=c_lrr_iff.1 hc;show x.qq.n/2<18446744073709551616;omega)
 (fun x hc=>by
  exact(c_lrr_iff.1 hc).2.2.2.2.2.2.2.2.2.2)
 (fun x j a hc hi hI=>by
  replace hI:a.n=j:=hI;show a.n+1=j+1;omega)
 (fun q ⟨off0,wl0,xn0,ln,wn,ln_2,wn_2,wn_3,w0,b1,wn_4,w0_2,wn_5,o1,wm,k,can,pin,pc,won,gvn,aan,fvn,rr,lrn,lpo,lpn,ld,ban,pan,cl,qq,sr0,wr,ca,pi,wo,gv,aa,fv,lr,lp,ba,pa⟩ j a hc hi hI R K=>by
  obtain⟨h1,h2,h3,h4,h5,h6,h7,h8,h9,h10,h11⟩:=c_lrr_iff.1 hc;dsimp only at*
  replace hi:j<qq.n/2:=hi;refine(Ads sR nC nR nB qC qR qB ww R K q ((2*j)) ((qq.n-2*j)) ((a.n)) ln wn ln wn wn w0 b1 wn w0 wn o1 wm k can pin pc won gvn aan fvn rr lrn lpo lpn ld ban pan cl qq ((a)) wr ca pi wo gv aa fv lr lp ba pa).trans ?_;replace hI:a.n=j:=hI;have hw:2<=qq.n-2*j:=o_;refine Aq (A4 o_) (Aq (by simp only[A2,A3];omega) (Aq (by simp only[A2,A3];omega) (Aq (A4 (by rw[wn_];omega)) (Aq (by simp only[A2,A3];omega) (Aq (by simp only[A2,A3];omega) ?_)))));rfl)
 (fun q ⟨off0,wl0,xn0,ln,wn,ln_2,wn_2,wn_3,w0,b1,wn_4,w0_2,wn_5,o1,wm,k,can,pin,pc,won,gvn,aan,fvn,rr,lrn,lpo,lpn,ld,ban,pan,cl,qq,sr0,wr,ca,pi,wo,gv,aa,fv,lr,lp,ba,pa⟩ a hc hI R K=>by
  obtain⟨h1,h2,h3,h4,h5,h6,h7,h8,h9,h10,h11⟩:=c_lrr_iff.1 hc;dsimp only at*
  refine(Ads sR nC nR nB qC qR qB ww R K q ((2*(qq.n/2))) ((qq.n-2*(qq.n/2))) ((a.n)) ln wn ln wn wn w0 b1 wn w0 wn o1 wm k can pin pc won gvn aan fvn rr lrn lpo lpn ld ban pan cl qq ((a)) wr ca pi wo gv aa fv lr lp ba pa).trans ?_;exact BC (AB o_) rfl)
def FP(q:Row):Row:=BK (fun j a=>WG a (q.I (2*j) 0) (q.I (2*j) 1) (q.I (2*j+1) 0) (q.I (2*j+1) 1)) (q.n/2) 0 .nil
def evB(n:Nat):Bool:=((n-2*(n/2):Nat):Int)==0
def wPc(r:Row)(ln:Y_)(x:Px)(qq:Row):Bool:=nU {off:=0,wl:=qq.n,xn:=0,ln:=ln,wn:=r.n,ln_2:=ln,wn_2:=r.n,wn_3:=r.n,w0:=r.S 0 0,b1:=(r.S 0 0).toList==sPiece.toList,wn_4:=r.n,w0_2:=r.S 0 0,wn_5:=r.n,o1:=1,wm:=(r.n:Int).toNat-1,k:=x.k,can:=x.ca.n,pin:=x.pi.n,pc:=x.pc,won:=x.wo.n,gvn:=x.gv.n,aan:=x.aa.n,fvn:=x.fv.n,rr:=x.rr,lrn:=x.lr.n,lpo:=x.lpo,lpn:=x.lpn,ld:=x.ld,ban:=x.ba.n,pan:=x.pa.n,cl:=x.cl,qq:=qq,sr:=.nil,wr:=r,ca:=x.ca,pi:=x.pi,wo:=x.wo,gv:=x.gv,aa:=x.aa,fv:=x.fv,lr:=x.lr,lp:=x.lp,ba:=x.ba,pa:=x.pa}
def Ahb(sR:Y_->Row)(nC:Row->Bool)(nR:Row->Row)(nB qC:Row->Bool)(qR:Row->Row)(qB:Row->Bool)(K:Value->St->OD)(ln:Y_)(x:Px):NC (Cpi sR nC nR nB qC qR qB sPiece) K ln x=aU sR ln sPiece 2 fun r=>br (qC (BG r)) (br (!qB (BG r)) (kR K false x) (br (wPc r ln x (qR (BG r))) (br (x.pi.n+1<=10000000000) (kR K (evB (qR (BG r)).n) {x with pi:=Em x.pi (Ae (FP (qR (BG r))))}) none) none)) none:=k_
end Go.Proofs.YtnljjjghpgdmoaaGreatDoor

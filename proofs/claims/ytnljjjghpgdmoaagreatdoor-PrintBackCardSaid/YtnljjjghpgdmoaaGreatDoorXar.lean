import Derived.Test.YtnljjjghpgdmoaaGreatDoorXaq
set_option linter.all false
namespace Go.Proofs.YtnljjjghpgdmoaaGreatDoor
open Go.Ev
set_option maxRecDepth 100000
theorem wsL{j:Nat}(h:j<9223372036854775807):IntKind.i64.wrap ((j:Int)+1)=((j+1:Nat):Int):=by
 rw[wrap64 (by omega) (by omega)];omega
def TY(r:Row):Bool:=(decide ((r.n:Int)>20)&&decide ((r.n:Int)<=60))||decide ((r.n:Int)>70)
def grb(r:Row):Bool:=(decide ((r.n:Int)>7)&&decide ((r.n:Int)<=10))||decide ((r.n:Int)>20)
def Z9(p q:Row):Bool:=decide ((p.n:Int)>60)||decide ((q.n:Int)>60)
noncomputable def Cg0:Cx:=AU Tryz.prog fns [] []
theorem WG:Bi Cg0:=Aq enter mixed (fun p h=>by cases h) (fun l h=>by cases h)
theorem vg3(r:Row):BZ Cg0 6 14 [.slice [.int .i64,.int .i64,.int .i64,.int .i64] r]=br ((r.n:Int)>20) (br ((r.n:Int)<=60) (some [.v (.bool true)]) (some [.v (.bool ((r.n:Int)>70))])) (some [.v (.bool ((r.n:Int)>70))]):=by kernel_rfl
theorem vgb(r:Row):BZ Cg0 6 18 [.slice [.int .i64] r]=br ((r.n:Int)>7) (br ((r.n:Int)<=10) (some [.v (.bool true)]) (some [.v (.bool ((r.n:Int)>20))])) (some [.v (.bool ((r.n:Int)>20))]):=by kernel_rfl
theorem vg2(l:Int)(p q:Row):BZ Cg0 6 108 [.agg [.v (i64 l),.slice [.int .i64] p,.slice [.int .i64] q]]=br ((p.n:Int)>60) (some [.v (.bool true)]) (some [.v (.bool ((q.n:Int)>60))]):=by kernel_rfl
def sV:FD
 |[.slice [.int .i64,.int .i64,.int .i64,.int .i64] r]=>some (true,[.v (.bool (TY r))])
 |_=>none
def Ae5:FD
 |[.slice [.int .i64] r]=>some (true,[.v (.bool (grb r))])
 |_=>none
def Agw:FD
 |[.agg [.v (.int .i64 l),.slice [.int .i64] p,.slice [.int .i64] q]]=>some (true,[.v (.bool (Z9 p q))])
 |_=>none
theorem WP:Den Tryz.prog 14 sV:=Ag WG fun ds rs h=>by
 unfold sV at h;split at h
 ·rename_i r;simp only[A5,A6]at h;obtain⟨_,rfl⟩:=h;refine(vg3 r).trans ?_;unfold TY;cases decide ((r.n:Int)>20)<;>cases decide ((r.n:Int)<=60)<;>rfl
 ·cases h
theorem uQ:Den Tryz.prog 18 Ae5:=Ag WG fun ds rs h=>by
 unfold Ae5 at h;split at h
 ·rename_i r;simp only[A5,A6]at h;obtain⟨_,rfl⟩:=h;refine(vgb r).trans ?_;unfold grb;cases decide ((r.n:Int)>7)<;>cases decide ((r.n:Int)<=10)<;>rfl
 ·cases h
theorem rV:Den Tryz.prog 108 Agw:=Ag WG fun ds rs h=>by
 unfold Agw at h;split at h
 ·rename_i l p q;simp only[A5,A6]at h;obtain⟨_,rfl⟩:=h;refine(vg2 l p q).trans ?_;unfold Z9;cases decide ((p.n:Int)>60)<;>rfl
 ·cases h
def Aar:Ed:={τ:=[.v (.sl 0)]++pu 2++[.v (.int .i64)]++pu 14,saved:=[[]],mem:=[.row [.int .i64,.slice [.int .i64],.slice [.int .i64]] false]}
structure A_lg4 where
 n:Nat
 j:Int
 r:Row
def eF(its:List It):Option A_lg4:=match its with|[.n n,.i j,.r r]=>some ⟨n,j,r⟩|_=>none
def jC(x:A_lg4):Bool:=x.j=0∧x.n<=9223372036854775807
def c_lg4_iff{x:A_lg4}:=@BC _ jC _ _ rfl x
def lg4:ScanL A_lg4:=⟨61,2,[0,3],[0,2],Aar,eF,fun x j=>[.n x.n,.i (j:Int),.r x.r],fun x=>x.n,jC,fun x j=>Z9 (x.r.R j 1) (x.r.R j 2),fun x j K=>K .ret ⟨[S_ 0 0 x.n]++us 1++[.bool true]++us 15,[[]],[some (.row [.int .i64,.slice [.int .i64],.slice [.int .i64]] false x.r)]⟩,fun x K=>K (.exit 0) ⟨[S_ 0 0 x.n]++us 17,[[]],[some (.row [.int .i64,.slice [.int .i64],.slice [.int .i64]] false x.r)]⟩⟩
noncomputable def Cg4:Cx:=AU Tryz.prog fns [(108,Agw)] [lg4.C]
def kE:Ed:={τ:=[.v (.sl 0)]++pu 2++[.v (.int .i64)]++pu 24,saved:=[[]],mem:=[.row [.slice [.int .i64]] false]}
structure A_lg13 where
 n:Nat
 j:Int
 r:Row
def V5(its:List It):Option A_lg13:=match its with|[.n n,.i j,.r r]=>some ⟨n,j,r⟩|_=>none
def Vw(x:A_lg13):Bool:=x.j=0∧x.n=x.n
def c_lg13_iff{x:A_lg13}:=@BC _ Vw _ _ rfl x
def lg13:ScanL A_lg13:=⟨62,2,[0,3],[0,2],kE,V5,fun x j=>[.n x.n,.i (j:Int),.r x.r],fun x=>min x.n 20,Vw,fun x j=>decide (((x.r.R j 0).n:Int)>50),fun x j K=>K .ret ⟨[S_ 0 0 x.n]++us 1++[.bool true]++us 25,[[]],[some (.row [.slice [.int .i64]] false x.r)]⟩,fun x K=>K (.exit 0) ⟨[S_ 0 0 x.n]++us 27,[[]],[some (.row [.slice [.int .i64]] false x.r)]⟩⟩
noncomputable def rP:Cx:=AU Tryz.prog fns [] [lg13.C]
theorem Ab6(R:St->OD)(K:X->St->OD)(q n:Nat)(j:Int)(r:Row):Ar Cg4 61 2 q (bst Aar [.n n,.i j,.r r]) (BI [0,3] (some [0,2]) R K)=br (j<(n:Int)) (br (0<=j&&j<(n:Int)) (br (Z9 (w_ (r.R (0+j.toNat) 1) 0 (r.R (0+j.toNat) 1).n) (w_ (r.R (0+j.toNat) 2) 0 (r.R (0+j.toNat) 2).n)) (K .ret ⟨[S_ 0 0 n]++us 1++[.bool true]++us 15,[[]],[some (.row [.int .i64,.slice [.int .i64],.slice [.int .i64]] false r)]⟩) (R ⟨[S_ 0 0 n]++us 2++[i64 (IntKind.i64.wrap (j+1))]++us 14,[[]],[some (.row [.int .i64,.slice [.int .i64],.slice [.int .i64]] false r)]⟩)) none) (K (.exit 0) ⟨[S_ 0 0 n]++us 17,[[]],[some (.row [.int .i64,.slice [.int .i64],.slice [.int .i64]] false r)]⟩):=by kernel_rfl
theorem Z5(R:St->OD)(K:X->St->OD)(q n:Nat)(j:Int)(r:Row):Ar rP 62 2 q (bst kE [.n n,.i j,.r r]) (BI [0,3] (some [0,2]) R K)=br (j<(n:Int)) (br (j<20) (br (0<=j&&j<(n:Int)) (br ((↑(r.R (0+j.toNat) 0).n:Int)>50) (K .ret ⟨[S_ 0 0 n]++us 1++[.bool true]++us 25,[[]],[some (.row [.slice [.int .i64]] false r)]⟩) (R ⟨[S_ 0 0 n]++us 2++[i64 (IntKind.i64.wrap (j+1))]++us 24,[[]],[some (.row [.slice [.int .i64]] false r)]⟩)) none) (K (.exit 0) ⟨[S_ 0 0 n]++us 27,[[]],[some (.row [.slice [.int .i64]] false r)]⟩)) (K (.exit 0) ⟨[S_ 0 0 n]++us 27,[[]],[some (.row [.slice [.int .i64]] false r)]⟩):=by kernel_rfl
theorem vg4(r:Row):BZ Cg4 6 61 [.slice [.int .i64,.slice [.int .i64],.slice [.int .i64]] r]=br (jC (⟨r.n,0,r⟩:A_lg4)) (br (Ap (fun j=>Z9 (r.R j 1) (r.R j 2)) r.n 0) (some [.v (.bool true)]) (some [.v (.bool ((r.n:Int)>10))])) (none):=by kernel_rfl
theorem Aju(r:Row):BZ rP 6 62 [.slice [.slice [.int .i64]] r]=br (Vw (⟨r.n,0,r⟩:A_lg13)) (br (Ap (fun j=>decide ((↑(r.R j 0).n:Int)>50)) (min r.n 20) 0) (some [.v (.bool true)]) (br ((r.n:Int)==6) (some [.v (.bool true)]) (some [.v (.bool ((r.n:Int)>20))]))) (none):=by kernel_rfl
theorem Aci:Ai Cg4 lg4.C:=lg4.ok (by kernel_rfl)
 (fun its x h hc=>by
  replace h:eF its=some x:=h;unfold eF at h;split at h
  ·cases h;obtain⟨h1,h2⟩:=c_lg4_iff.1 hc;dsimp only at h1;subst h1;rfl
  ·cases h)
 (fun x hc=>by have:=c_lg4_iff.1 hc;show x.n<18446744073709551616;omega)
 (fun q ⟨n,j0,r⟩ j hc hi R K=>by
  obtain⟨h1,h2⟩:=c_lg4_iff.1 hc;dsimp only at*
  replace hi:j<n:=hi;refine(Ab6 R K q n ((j:Int)) r).trans ?_;rw[A9 j,AE j,gd j n hi,Fe j n hi,wsL (by omega)];unfold Z9;rw[wn_,wn_];rfl)
 (fun q ⟨n,j0,r⟩ hc R K=>by
  obtain⟨h1,h2⟩:=c_lg4_iff.1 hc;dsimp only at*
  refine(Ab6 R K q n ((n:Int)) r).trans ?_;rw[F8 n];rfl)
theorem tV:Ai rP lg13.C:=lg13.ok (by kernel_rfl)
 (fun its x h hc=>by
  replace h:V5 its=some x:=h;unfold V5 at h;split at h
  ·cases h;obtain⟨h1,h2⟩:=c_lg13_iff.1 hc;dsimp only at h1;subst h1;rfl
  ·cases h)
 (fun x hc=>by have:=c_lg13_iff.1 hc;show min x.n 20<18446744073709551616;omega)
 (fun q ⟨n,j0,r⟩ j hc hi R K=>by
  obtain⟨h1,h2⟩:=c_lg13_iff.1 hc;dsimp only at*
  replace hi:j<min n 20:=hi;refine(Z5 R K q n ((j:Int)) r).trans ?_;rw[A9 j,AE j,gd j n (by omega),Fe j n (by omega),FH (by omega),A4 (show(j:Int)<20 by omega)];rfl)
 (fun q ⟨n,j0,r⟩ hc R K=>by
  obtain⟨h1,h2⟩:=c_lg13_iff.1 hc;dsimp only at*
  refine(Z5 R K q n (((min n 20:Nat):Int)) r).trans ?_;by_cases k:n<=20
  ·rw[Nat.min_eq_left k,F8 n];rfl
  ·rw[Nat.min_eq_right (by omega),Fe 20 n (by omega),show decide (((20:Nat):Int)<20)=false from rfl];rfl)
def gr4(r:Row):Bool:=Ap (fun j=>Z9 (r.R j 1) (r.R j 2)) r.n 0||decide ((r.n:Int)>10)
def Afh:FD
 |[.slice [.int .i64,.slice [.int .i64],.slice [.int .i64]] r]=>some (r.n<=9223372036854775807,[.v (.bool (gr4 r))])
 |_=>none
theorem Adr:Bi Cg4:=Aq enter mixed (fun p h=>by
 simp only[A8,A7,or_false]at h;rcases h with rfl;exact rV) (fun l h=>by
 simp only[A8,A7,or_false]at h;rcases h with rfl;exact Aci)
theorem qL:Den Tryz.prog 61 Afh:=Ag Adr fun ds rs h=>by
 unfold Afh at h;split at h
 ·rename_i r;simp only[A5,A6,A3]at h;obtain⟨h0,rfl⟩:=h;refine(vg4 r).trans ?_;rw[c_lg4_iff.2 ⟨rfl,h0⟩,Aa];unfold gr4;show br (Ap (fun j=>Z9 (r.R j 1) (r.R j 2)) r.n 0) _ _=_;cases Ap (fun j=>Z9 (r.R j 1) (r.R j 2)) r.n 0<;>rfl
 ·cases h
def WC(r:Row):Bool:=Ap (fun j=>decide (((r.R j 0).n:Int)>50)) (min r.n 20) 0||((r.n:Int)==6||decide ((r.n:Int)>20))
def iG:FD
 |[.slice [.slice [.int .i64]] r]=>some (true,[.v (.bool (WC r))])
 |_=>none
theorem tJ:Bi rP:=Aq enter mixed (fun p h=>by cases h) (fun l h=>by
 simp only[A8,A7,or_false]at h;rcases h with rfl;exact tV)
theorem kS:Den Tryz.prog 62 iG:=Ag tJ fun ds rs h=>by
 unfold iG at h;split at h
 ·rename_i r;simp only[A5,A6]at h;obtain⟨_,rfl⟩:=h;refine(Aju r).trans ?_;rw[c_lg13_iff.2 ⟨rfl,rfl⟩,Aa];unfold WC;show br (Ap (fun j=>decide (((r.R j 0).n:Int)>50)) (min r.n 20) 0) _ _=_;cases Ap (fun j=>decide (((r.R j 0).n:Int)>50)) (min r.n 20) 0<;>cases(r.n:Int)==6<;>rfl
 ·cases h
noncomputable def Aaa:Cx:=AU Tryz.prog fns [(62,iG)] []
theorem Akw(r p q:Row)(n m:Int):BZ Aaa 6 17 [.agg [.slice [.slice [.int .i64]] r,.v (i64 n)],.agg [.slice [.int .i64] p,.slice [.int .i64] q,.v (i64 m)]]=br (WC (w_ r 0 r.n)) (some [.v (.bool true)]) (br ((p.n:Int)>50) (some [.v (.bool true)]) (some [.v (.bool ((q.n:Int)>50))])):=by kernel_rfl
def bT:Ed:={τ:=[.v (.sl 0)]++pu 2++[.v (.c (.pointer (some ⟨1,0,some 0⟩)))]++pu 1++[.v (.int .i64)]++pu 21,saved:=[[]],mem:=[.row [.int .i64,.slice [.int .i64],.slice [.int .i64]] false,.box [.v (.sl 2)],.row [.slice [.int .i64,.int .i64,.int .i64,.int .i64]] false]}
structure A_lg6r where
 rn:Nat
 j:Int
 r:Row
 sn:Nat
 s:Row
def WF(its:List It):Option A_lg6r:=match its with|[.n rn,.i j,.r r,.n sn,.r s]=>some ⟨rn,j,r,sn,s⟩|_=>none
def Wy(x:A_lg6r):Bool:=x.j=0∧x.sn<=9223372036854775807
def c_lg6r_iff{x:A_lg6r}:=@BC _ Wy _ _ rfl x
def lg6r:ScanL A_lg6r:=⟨15,2,[0,3,5],[0,3,4],bT,WF,fun x j=>[.n x.rn,.i (j:Int),.r x.r,.n x.sn,.r x.s],fun x=>x.sn,Wy,fun x j=>TY (x.s.R j 0),fun x j K=>K .ret ⟨[S_ 0 0 x.rn]++us 2++[.pointer (some ⟨1,0,some 0⟩),.bool true]++us 22,[[]],[some (.row [.int .i64,.slice [.int .i64],.slice [.int .i64]] false x.r),some (.box [S_ 2 0 x.sn]),some (.row [.slice [.int .i64,.int .i64,.int .i64,.int .i64]] false x.s)]⟩,fun x K=>K (.exit 0) ⟨[S_ 0 0 x.rn]++us 2++[.pointer (some ⟨1,0,some 0⟩)]++us 23,[[]],[some (.row [.int .i64,.slice [.int .i64],.slice [.int .i64]] false x.r),some (.box [S_ 2 0 x.sn]),some (.row [.slice [.int .i64,.int .i64,.int .i64,.int .i64]] false x.s)]⟩⟩
noncomputable def vK:Cx:=AU Tryz.prog fns [(14,sV),(61,Afh)] [lg6r.C]
theorem dC(R:St->OD)(K:X->St->OD)(q rn:Nat)(j:Int)(r:Row)(sn:Nat)(s:Row):Ar vK 15 2 q (bst bT [.n rn,.i j,.r r,.n sn,.r s]) (BI [0,3,5] (some [0,3,4]) R K)=br (j<(sn:Int)) (br (0<=j&&j<(sn:Int)) (br (TY (w_ (s.R (0+j.toNat) 0) 0 (s.R (0+j.toNat) 0).n)) (K .ret ⟨[S_ 0 0 rn]++us 2++[.pointer (some ⟨1,0,some 0⟩),.bool true]++us 22,[[]],[some (.row [.int .i64,.slice [.int .i64],.slice [.int .i64]] false r),some (.box [S_ 2 0 sn]),some (.row [.slice [.int .i64,.int .i64,.int .i64,.int .i64]] false s)]⟩) (R ⟨[S_ 0 0 rn]++us 2++[.pointer (some ⟨1,0,some 0⟩)]++us 1++[i64 (IntKind.i64.wrap (j+1))]++us 21,[[]],[some (.row [.int .i64,.slice [.int .i64],.slice [.int .i64]] false r),some (.box [S_ 2 0 sn]),some (.row [.slice [.int .i64,.int .i64,.int .i64,.int .i64]] false s)]⟩)) none) (K (.exit 0) ⟨[S_ 0 0 rn]++us 2++[.pointer (some ⟨1,0,some 0⟩)]++us 23,[[]],[some (.row [.int .i64,.slice [.int .i64],.slice [.int .i64]] false r),some (.box [S_ 2 0 sn]),some (.row [.slice [.int .i64,.int .i64,.int .i64,.int .i64]] false s)]⟩):=by kernel_rfl
theorem vg6(r s:Row):BZ vK 6 15 [.slice [.int .i64,.slice [.int .i64],.slice [.int .i64]] r,.agg [.slice [.slice [.int .i64,.int .i64,.int .i64,.int .i64]] s]]=br (Wy (⟨r.n,0,r,s.n,s⟩:A_lg6r)) (br (Ap (fun j=>TY (s.R j 0)) s.n 0) (some [.v (.bool true)]) (br ((w_ r 0 r.n).n<=9223372036854775807) (br (gr4 (w_ r 0 r.n)) (some [.v (.bool true)]) (some [.v (.bool ((s.n:Int)>10))])) none)) (none):=by kernel_rfl
theorem sZ:Ai vK lg6r.C:=lg6r.ok (by kernel_rfl)
 (fun its x h hc=>by
  replace h:WF its=some x:=h;unfold WF at h;split at h
  ·cases h;obtain⟨h1,h2⟩:=c_lg6r_iff.1 hc;dsimp only at h1;subst h1;rfl
  ·cases h)
 (fun x hc=>by have:=c_lg6r_iff.1 hc;show x.sn<18446744073709551616;omega)
 (fun q ⟨rn,j0,r,sn,s⟩ j hc hi R K=>by
  obtain⟨h1,h2⟩:=c_lg6r_iff.1 hc;dsimp only at*
  replace hi:j<sn:=hi;refine(dC R K q rn ((j:Int)) r sn s).trans ?_;rw[A9 j,AE j,gd j sn hi,Fe j sn hi,wsL (by omega)];unfold TY;rw[wn_];rfl)
 (fun q ⟨rn,j0,r,sn,s⟩ hc R K=>by
  obtain⟨h1,h2⟩:=c_lg6r_iff.1 hc;dsimp only at*
  refine(dC R K q rn ((sn:Int)) r sn s).trans ?_;rw[F8 sn];rfl)
def V9(r p q:Row):Bool:=WC (Ad r)||(decide ((p.n:Int)>50)||decide ((q.n:Int)>50))
def cO:FD
 |[.agg [.slice [.slice [.int .i64]] r,.v (.int .i64 n)],.agg [.slice [.int .i64] p,.slice [.int .i64] q,.v (.int .i64 m)]]=>some (true,[.v (.bool (V9 r p q))])
 |_=>none
theorem fU:Bi Aaa:=Aq enter mixed (fun p h=>by
 simp only[A8,A7,or_false]at h;rcases h with rfl;exact kS) (fun l h=>by cases h)
theorem jU:Den Tryz.prog 17 cO:=Ag fU fun ds rs h=>by
 unfold cO at h;split at h
 ·rename_i r n p q m;simp only[A5,A6]at h;obtain⟨_,rfl⟩:=h;refine(Akw r p q n m).trans ?_;unfold V9;show br (WC (Ad r)) _ _=_;cases WC (Ad r)<;>cases decide ((p.n:Int)>50)<;>rfl
 ·cases h
def gr6(r s:Row):Bool:=Ap (fun j=>TY (s.R j 0)) s.n 0||(gr4 (Ad r)||decide ((s.n:Int)>10))
def Ad2:FD
 |[.slice [.int .i64,.slice [.int .i64],.slice [.int .i64]] r,.agg [.slice [.slice [.int .i64,.int .i64,.int .i64,.int .i64]] s]]=>some (r.n<=9223372036854775807∧s.n<=9223372036854775807,[.v (.bool (gr6 r s))])
 |_=>none
theorem rU:Bi vK:=Aq enter mixed (fun p h=>by
 simp only[A8,A7,or_false]at h;rcases h with rfl|rfl
 ·exact WP
 ·exact qL) (fun l h=>by
 simp only[A8,A7,or_false]at h;rcases h with rfl;exact sZ)
theorem uJ:Den Tryz.prog 15 Ad2:=Ag rU fun ds rs h=>by
 unfold Ad2 at h;split at h
 ·rename_i r s;simp only[A5,A6,A3]at h;obtain⟨⟨h0,h1⟩,rfl⟩:=h;refine(vg6 r s).trans ?_;rw[c_lg6r_iff.2 ⟨rfl,h1⟩,Aa];unfold gr6;show br (Ap (fun j=>TY (s.R j 0)) s.n 0) _ (br (decide ((w_ r 0 r.n).n<=9223372036854775807)) (br (gr4 (Ad r)) _ _) none)=_;rw[wn_,A4 h0,Aa];cases Ap (fun j=>TY (s.R j 0)) s.n 0<;>cases gr4 (Ad r)<;>rfl
 ·cases h
def Aa6:Ed:={τ:=pu 1++[.v (.c (.pointer (some ⟨0,0,some 0⟩)))]++pu 1++[.v (.int .i64)]++pu 79,saved:=[[]],mem:=[.box [.v (.int .u8),.v (.sl 1),.v (.sl 2),.v (.int .u8),.v (.sl 3),.v (.sl 4),.v (.sl 5),.v (.sl 6),.v (.int .i64),.v (.sl 7),.v (.sl 8),.v (.int .i64),.v (.sl 9),.v (.sl 10),.v (.int .u8)],.row [.int .i64,.slice [.int .i64],.slice [.int .i64]] false,.row [.slice [.int .i64,.int .i64,.int .i64,.int .i64]] false,.row [.slice [.int .i64,.int .i64]] false,.row [.slice [.int .i64]] false,.row [.int .i64] false,.row [.slice [.int .i64]] false,.row [.int .i64] false,.row [.int .i64] false,.row [.int .i64] false,.row [.int .i64,.int .i64,.int .i64] false]}
structure A_lG2 where
 j:Int
 k:Int
 can:Nat
 pin:Nat
 pc:Int
 won:Nat
 gvn:Nat
 aan:Nat
 fvn:Nat
 rr:Int
 lrn:Nat
 lpn:Nat
 ld:Int
 ban:Nat
 pan:Nat
 cl:Int
 ca:Row
 pi:Row
 wo:Row
 gv:Row
 aa:Row
 fv:Row
 lr:Row
 lp:Row
 ba:Row
 pa:Row
def ZE(its:List It):Option A_lG2:=match its with|[.i j,.i k,.n can,.n pin,.i pc,.n won,.n gvn,.n aan,.n fvn,.i rr,.n lrn,.n lpn,.i ld,.n ban,.n pan,.i cl,.r ca,.r pi,.r wo,.r gv,.r aa,.r fv,.r lr,.r lp,.r ba,.r pa]=>some ⟨j,k,can,pin,pc,won,gvn,aan,fvn,rr,lrn,lpn,ld,ban,pan,cl,ca,pi,wo,gv,aa,fv,lr,lp,ba,pa⟩|_=>none
def gQ(x:A_lG2):Bool:=x.j=0∧x.pin<=9223372036854775807
def c_lG2_iff{x:A_lG2}:=@BC _ gQ _ _ rfl x
def lG2:ScanL A_lG2:=⟨5,2,[1,3],[1,2],Aa6,ZE,fun x j=>[.i (j:Int),.i x.k,.n x.can,.n x.pin,.i x.pc,.n x.won,.n x.gvn,.n x.aan,.n x.fvn,.i x.rr,.n x.lrn,.n x.lpn,.i x.ld,.n x.ban,.n x.pan,.i x.cl,.r x.ca,.r x.pi,.r x.wo,.r x.gv,.r x.aa,.r x.fv,.r x.lr,.r x.lp,.r x.ba,.r x.pa],fun x=>x.pin,gQ,fun x j=>TY (x.pi.R j 0),fun x j K=>K .ret ⟨us 1++[.pointer (some ⟨0,0,some 0⟩),.bool true]++us 80,[[]],[some (.box [.int .u8 x.k,S_ 1 0 x.can,S_ 2 0 x.pin,.int .u8 x.pc,S_ 3 0 x.won,S_ 4 0 x.gvn,S_ 5 0 x.aan,S_ 6 0 x.fvn,i64 x.rr,S_ 7 0 x.lrn,S_ 8 0 x.lpn,i64 x.ld,S_ 9 0 x.ban,S_ 10 0 x.pan,.int .u8 x.cl]),some (.row [.int .i64,.slice [.int .i64],.slice [.int .i64]] false x.ca),some (.row [.slice [.int .i64,.int .i64,.int .i64,.int .i64]] false x.pi),some (.row [.slice [.int .i64,.int .i64]] false x.wo),some (.row [.slice [.int .i64]] false x.gv),some (.row [.int .i64] false x.aa),some (.row [.slice [.int .i64]] false x.fv),some (.row [.int .i64] false x.lr),some (.row [.int .i64] false x.lp),some (.row [.int .i64] false x.ba),some (.row [.int .i64,.int .i64,.int .i64] false x.pa)]⟩,fun x K=>K (.exit 0) ⟨us 1++[.pointer (some ⟨0,0,some 0⟩)]++us 81,[[]],[some (.box [.int .u8 x.k,S_ 1 0 x.can,S_ 2 0 x.pin,.int .u8 x.pc,S_ 3 0 x.won,S_ 4 0 x.gvn,S_ 5 0 x.aan,S_ 6 0 x.fvn,i64 x.rr,S_ 7 0 x.lrn,S_ 8 0 x.lpn,i64 x.ld,S_ 9 0 x.ban,S_ 10 0 x.pan,.int .u8 x.cl]),some (.row [.int .i64,.slice [.int .i64],.slice [.int .i64]] false x.ca),some (.row [.slice [.int .i64,.int .i64,.int .i64,.int .i64]] false x.pi),some (.row [.slice [.int .i64,.int .i64]] false x.wo),some (.row [.slice [.int .i64]] false x.gv),some (.row [.int .i64] false x.aa),some (.row [.slice [.int .i64]] false x.fv),some (.row [.int .i64] false x.lr),some (.row [.int .i64] false x.lp),some (.row [.int .i64] false x.ba),some (.row [.int .i64,.int .i64,.int .i64] false x.pa)]⟩⟩
def xA:Ed:={τ:=pu 1++[.v (.c (.pointer (some ⟨0,0,some 0⟩)))]++pu 2++[.v (.int .i64)]++pu 78,saved:=[[]],mem:=[.box [.v (.int .u8),.v (.sl 1),.v (.sl 2),.v (.int .u8),.v (.sl 3),.v (.sl 4),.v (.sl 5),.v (.sl 6),.v (.int .i64),.v (.sl 7),.v (.sl 8),.v (.int .i64),.v (.sl 9),.v (.sl 10),.v (.int .u8)],.row [.int .i64,.slice [.int .i64],.slice [.int .i64]] false,.row [.slice [.int .i64,.int .i64,.int .i64,.int .i64]] false,.row [.slice [.int .i64,.int .i64]] false,.row [.slice [.int .i64]] false,.row [.int .i64] false,.row [.slice [.int .i64]] false,.row [.int .i64] false,.row [.int .i64] false,.row [.int .i64] false,.row [.int .i64,.int .i64,.int .i64] false]}
structure A_lG7 where
 j:Int
 k:Int
 can:Nat
 pin:Nat
 pc:Int
 won:Nat
 gvn:Nat
 aan:Nat
 fvn:Nat
 rr:Int
 lrn:Nat
 lpn:Nat
 ld:Int
 ban:Nat
 pan:Nat
 cl:Int
 ca:Row
 pi:Row
 wo:Row
 gv:Row
 aa:Row
 fv:Row
 lr:Row
 lp:Row
 ba:Row
 pa:Row
def jR(its:List It):Option A_lG7:=match its with|[.i j,.i k,.n can,.n pin,.i pc,.n won,.n gvn,.n aan,.n fvn,.i rr,.n lrn,.n lpn,.i ld,.n ban,.n pan,.i cl,.r ca,.r pi,.r wo,.r gv,.r aa,.r fv,.r lr,.r lp,.r ba,.r pa]=>some ⟨j,k,can,pin,pc,won,gvn,aan,fvn,rr,lrn,lpn,ld,ban,pan,cl,ca,pi,wo,gv,aa,fv,lr,lp,ba,pa⟩|_=>none
def bW(x:A_lG7):Bool:=x.j=0∧x.won<=9223372036854775807
def c_lG7_iff{x:A_lG7}:=@BC _ bW _ _ rfl x
def lG7:ScanL A_lG7:=⟨5,7,[1,4],[1,2],xA,jR,fun x j=>[.i (j:Int),.i x.k,.n x.can,.n x.pin,.i x.pc,.n x.won,.n x.gvn,.n x.aan,.n x.fvn,.i x.rr,.n x.lrn,.n x.lpn,.i x.ld,.n x.ban,.n x.pan,.i x.cl,.r x.ca,.r x.pi,.r x.wo,.r x.gv,.r x.aa,.r x.fv,.r x.lr,.r x.lp,.r x.ba,.r x.pa],fun x=>x.won,bW,fun x j=>decide (((x.wo.R j 0).n:Int)>20),fun x j K=>K .ret ⟨us 1++[.pointer (some ⟨0,0,some 0⟩),.bool true]++us 80,[[]],[some (.box [.int .u8 x.k,S_ 1 0 x.can,S_ 2 0 x.pin,.int .u8 x.pc,S_ 3 0 x.won,S_ 4 0 x.gvn,S_ 5 0 x.aan,S_ 6 0 x.fvn,i64 x.rr,S_ 7 0 x.lrn,S_ 8 0 x.lpn,i64 x.ld,S_ 9 0 x.ban,S_ 10 0 x.pan,.int .u8 x.cl]),some (.row [.int .i64,.slice [.int .i64],.slice [.int .i64]] false x.ca),some (.row [.slice [.int .i64,.int .i64,.int .i64,.int .i64]] false x.pi),some (.row [.slice [.int .i64,.int .i64]] false x.wo),some (.row [.slice [.int .i64]] false x.gv),some (.row [.int .i64] false x.aa),some (.row [.slice [.int .i64]] false x.fv),some (.row [.int .i64] false x.lr),some (.row [.int .i64] false x.lp),some (.row [.int .i64] false x.ba),some (.row [.int .i64,.int .i64,.int .i64] false x.pa)]⟩,fun x K=>K (.exit 2) ⟨us 1++[.pointer (some ⟨0,0,some 0⟩)]++us 81,[[]],[some (.box [.int .u8 x.k,S_ 1 0 x.can,S_ 2 0 x.pin,.int .u8 x.pc,S_ 3 0 x.won,S_ 4 0 x.gvn,S_ 5 0 x.aan,S_ 6 0 x.fvn,i64 x.rr,S_ 7 0 x.lrn,S_ 8 0 x.lpn,i64 x.ld,S_ 9 0 x.ban,S_ 10 0 x.pan,.int .u8 x.cl]),some (.row [.int .i64,.slice [.int .i64],.slice [.int .i64]] false x.ca),some (.row [.slice [.int .i64,.int .i64,.int .i64,.int .i64]] false x.pi),some (.row [.slice [.int .i64,.int .i64]] false x.wo),some (.row [.slice [.int .i64]] false x.gv),some (.row [.int .i64] false x.aa),some (.row [.slice [.int .i64]] false x.fv),some (.row [.int .i64] false x.lr),some (.row [.int .i64] false x.lp),some (.row [.int .i64] false x.ba),some (.row [.int .i64,.int .i64,.int .i64] false x.pa)]⟩⟩
noncomputable def CG:Cx:=AU Tryz.prog fns [(14,sV),(15,Ad2),(16,Ae3),(17,cO),(18,Ae5)] [lG2.C,lG7.C]
theorem yS(R:St->OD)(K:X->St->OD)(q:Nat)(j k:Int)(can pin:Nat)(pc:Int)(won gvn aan fvn:Nat)(rr:Int)(lrn lpn:Nat)(ld:Int)(ban pan:Nat)(cl:Int)(ca pi wo gv aa fv lr lp ba pa:Row):Ar CG 5 2 q (bst Aa6 [.i j,.i k,.n can,.n pin,.i pc,.n won,.n gvn,.n aan,.n fvn,.i rr,.n lrn,.n lpn,.i ld,.n ban,.n pan,.i cl,.r ca,.r pi,.r wo,.r gv,.r aa,.r fv,.r lr,.r lp,.r ba,.r pa]) (BI [1,3] (some [1,2]) R K)=br (j<(pin:Int)) (br (0<=j&&j<(pin:Int)) (br (TY (w_ (pi.R (0+j.toNat) 0) 0 (pi.R (0+j.toNat) 0).n)) (K .ret ⟨us 1++[.pointer (some ⟨0,0,some 0⟩),.bool true]++us 80,[[]],[some (.box [.int .u8 k,S_ 1 0 can,S_ 2 0 pin,.int .u8 pc,S_ 3 0 won,S_ 4 0 gvn,S_ 5 0 aan,S_ 6 0 fvn,i64 rr,S_ 7 0 lrn,S_ 8 0 lpn,i64 ld,S_ 9 0 ban,S_ 10 0 pan,.int .u8 cl]),some (.row [.int .i64,.slice [.int .i64],.slice [.int .i64]] false ca),some (.row [.slice [.int .i64,.int .i64,.int .i64,.int .i64]] false pi),some (.row [.slice [.int .i64,.int .i64]] false wo),some (.row [.slice [.int .i64]] false gv),some (.row [.int .i64] false aa),some (.row [.slice [.int .i64]] false fv),some (.row [.int .i64] false lr),some (.row [.int .i64] false lp),some (.row [.int .i64] false ba),some (.row [.int .i64,.int .i64,.int .i64] false pa)]⟩) (R ⟨us 1++[.pointer (some ⟨0,0,some 0⟩)]++us 1++[i64 (IntKind.i64.wrap (j+1))]++us 79,[[]],[some (.box [.int .u8 k,S_ 1 0 can,S_ 2 0 pin,.int .u8 pc,S_ 3 0 won,S_ 4 0 gvn,S_ 5 0 aan,S_ 6 0 fvn,i64 rr,S_ 7 0 lrn,S_ 8 0 lpn,i64 ld,S_ 9 0 ban,S_ 10 0 pan,.int .u8 cl]),some (.row [.int .i64,.slice [.int .i64],.slice [.int .i64]] false ca),some (.row [.slice [.int .i64,.int .i64,.int .i64,.int .i64]] false pi),some (.row [.slice [.int .i64,.int .i64]] false wo),some (.row [.slice [.int .i64]] false gv),some (.row [.int .i64] false aa),some (.row [.slice [.int .i64]] false fv),some (.row [.int .i64] false lr),some (.row [.int .i64] false lp),some (.row [.int .i64] false ba),some (.row [.int .i64,.int .i64,.int .i64] false pa)]⟩)) none) (K (.exit 0) ⟨us 1++[.pointer (some ⟨0,0,some 0⟩)]++us 81,[[]],[some (.box [.int .u8 k,S_ 1 0 can,S_ 2 0 pin,.int .u8 pc,S_ 3 0 won,S_ 4 0 gvn,S_ 5 0 aan,S_ 6 0 fvn,i64 rr,S_ 7 0 lrn,S_ 8 0 lpn,i64 ld,S_ 9 0 ban,S_ 10 0 pan,.int .u8 cl]),some (.row [.int .i64,.slice [.int .i64],.slice [.int .i64]] false ca),some (.row [.slice [.int .i64,.int .i64,.int .i64,.int .i64]] false pi),some (.row [.slice [.int .i64,.int .i64]] false wo),some (.row [.slice [.int .i64]] false gv),some (.row [.int .i64] false aa),some (.row [.slice [.int .i64]] false fv),some (.row [.int .i64] false lr),some (.row [.int .i64] false lp),some (.row [.int .i64] false ba),some (.row [.int .i64,.int .i64,.int .i64] false pa)]⟩):=by kernel_rfl
theorem xI(R:St->OD)(K:X->St->OD)(q:Nat)(j k:Int)(can pin:Nat)(pc:Int)(won gvn aan fvn:Nat)(rr:Int)(lrn lpn:Nat)(ld:Int)(ban pan:Nat)(cl:Int)(ca pi wo gv aa fv lr lp ba pa:Row):Ar CG 5 7 q (bst xA [.i j,.i k,.n can,.n pin,.i pc,.n won,.n gvn,.n aan,.n fvn,.i rr,.n lrn,.n lpn,.i ld,.n ban,.n pan,.i cl,.r ca,.r pi,.r wo,.r gv,.r aa,.r fv,.r lr,.r lp,.r ba,.r pa]) (BI [1,4] (some [1,2]) R K)=br (j<(won:Int)) (br (0<=j&&j<(won:Int)) (br ((↑(wo.R (0+j.toNat) 0).n:Int)>20) (K .ret ⟨us 1++[.pointer (some ⟨0,0,some 0⟩),.bool true]++us 80,[[]],[some (.box [.int .u8 k,S_ 1 0 can,S_ 2 0 pin,.int .u8 pc,S_ 3 0 won,S_ 4 0 gvn,S_ 5 0 aan,S_ 6 0 fvn,i64 rr,S_ 7 0 lrn,S_ 8 0 lpn,i64 ld,S_ 9 0 ban,S_ 10 0 pan,.int .u8 cl]),some (.row [.int .i64,.slice [.int .i64],.slice [.int .i64]] false ca),some (.row [.slice [.int .i64,.int .i64,.int .i64,.int .i64]] false pi),some (.row [.slice [.int .i64,.int .i64]] false wo),some (.row [.slice [.int .i64]] false gv),some (.row [.int .i64] false aa),some (.row [.slice [.int .i64]] false fv),some (.row [.int .i64] false lr),some (.row [.int .i64] false lp),some (.row [.int .i64] false ba),some (.row [.int .i64,.int .i64,.int .i64] false pa)]⟩) (R ⟨us 1++[.pointer (some ⟨0,0,some 0⟩)]++us 2++[i64 (IntKind.i64.wrap (j+1))]++us 78,[[]],[some (.box [.int .u8 k,S_ 1 0 can,S_ 2 0 pin,.int .u8 pc,S_ 3 0 won,S_ 4 0 gvn,S_ 5 0 aan,S_ 6 0 fvn,i64 rr,S_ 7 0 lrn,S_ 8 0 lpn,i64 ld,S_ 9 0 ban,S_ 10 0 pan,.int .u8 cl]),some (.row [.int .i64,.slice [.int .i64],.slice [.int .i64]] false ca),some (.row [.slice [.int .i64,.int .i64,.int .i64,.int .i64]] false pi),some (.row [.slice [.int .i64,.int .i64]] false wo),some (.row [.slice [.int .i64]] false gv),some (.row [.int .i64] false aa),some (.row [.slice [.int .i64]] false fv),some (.row [.int .i64] false lr),some (.row [.int .i64] false lp),some (.row [.int .i64] false ba),some (.row [.int .i64,.int .i64,.int .i64] false pa)]⟩)) none) (K (.exit 2) ⟨us 1++[.pointer (some ⟨0,0,some 0⟩)]++us 81,[[]],[some (.box [.int .u8 k,S_ 1 0 can,S_ 2 0 pin,.int .u8 pc,S_ 3 0 won,S_ 4 0 gvn,S_ 5 0 aan,S_ 6 0 fvn,i64 rr,S_ 7 0 lrn,S_ 8 0 lpn,i64 ld,S_ 9 0 ban,S_ 10 0 pan,.int .u8 cl]),some (.row [.int .i64,.slice [.int .i64],.slice [.int .i64]] false ca),some (.row [.slice [.int .i64,.int .i64,.int .i64,.int .i64]] false pi),some (.row [.slice [.int .i64,.int .i64]] false wo),some (.row [.slice [.int .i64]] false gv),some (.row [.int .i64] false aa),some (.row [.slice [.int .i64]] false fv),some (.row [.int .i64] false lr),some (.row [.int .i64] false lp),some (.row [.int .i64] false ba),some (.row [.int .i64,.int .i64,.int .i64] false pa)]⟩):=by kernel_rfl
theorem uG(k:Int)(ca pi:Row)(pc:Int)(wo gv aa fv:Row)(rr:Int)(lr lp:Row)(ld:Int)(ba pa:Row)(cl:Int):BZ CG 6 5 [Tf k ca pi pc wo gv aa fv rr lr lp ld ba pa cl]=br (gQ (⟨0,k,ca.n,pi.n,pc,wo.n,gv.n,aa.n,fv.n,rr,lr.n,lp.n,ld,ba.n,pa.n,cl,ca,pi,wo,gv,aa,fv,lr,lp,ba,pa⟩:A_lG2)) (br (Ap (fun j=>TY (pi.R j 0)) pi.n 0) (some [.v (.bool true)]) (br (bW (⟨0,k,ca.n,pi.n,pc,wo.n,gv.n,aa.n,fv.n,rr,lr.n,lp.n,ld,ba.n,pa.n,cl,ca,pi,wo,gv,aa,fv,lr,lp,ba,pa⟩:A_lG7)) (br (Ap (fun j=>decide ((↑(wo.R j 0).n:Int)>20)) wo.n 0) (some [.v (.bool true)]) (br (decide ((w_ ca 0 ca.n).n<=9223372036854775807∧(w_ pi 0 pi.n).n<=9223372036854775807)) (br (gr6 (w_ ca 0 ca.n) (w_ pi 0 pi.n)) (some [.v (.bool true)]) (br ((wo.n:Int)>20) (some [.v (.bool true)]) (br ((w_ gv 0 gv.n).n=(w_ gv 0 gv.n).n) (br (VX (w_ gv 0 gv.n) (w_ aa 0 aa.n)) (some [.v (.bool true)]) (br (V9 (w_ fv 0 fv.n) (w_ lr 0 lr.n) (w_ lp 0 lp.n)) (some [.v (.bool true)]) (br (grb (w_ ba 0 ba.n)) (some [.v (.bool true)]) (br ((pa.n:Int)>30) (br ((pa.n:Int)<=200) (some [.v (.bool true)]) (some [.v (.bool ((pa.n:Int)>210))])) (some [.v (.bool ((pa.n:Int)>210))]))))) none))) none)) none)) (none):=by kernel_rfl
theorem Ady:Ai CG lG2.C:=lG2.ok (by kernel_rfl)
 (fun its x h hc=>by
  replace h:ZE its=some x:=h;unfold ZE at h;split at h
  ·cases h;obtain⟨h1,h2⟩:=c_lG2_iff.1 hc;dsimp only at h1;subst h1;rfl
  ·cases h)
 (fun x hc=>by have:=c_lG2_iff.1 hc;show x.pin<18446744073709551616;omega)
 (fun q ⟨j0,k,can,pin,pc,won,gvn,aan,fvn,rr,lrn,lpn,ld,ban,pan,cl,ca,pi,wo,gv,aa,fv,lr,lp,ba,pa⟩ j hc hi R K=>by
  obtain⟨h1,h2⟩:=c_lG2_iff.1 hc;dsimp only at*
  replace hi:j<pin:=hi;refine(yS R K q ((j:Int)) k can pin pc won gvn aan fvn rr lrn lpn ld ban pan cl ca pi wo gv aa fv lr lp ba pa).trans ?_;rw[A9 j,AE j,gd j pin hi,Fe j pin hi,wsL (by omega)];unfold TY;rw[wn_];rfl)
 (fun q ⟨j0,k,can,pin,pc,won,gvn,aan,fvn,rr,lrn,lpn,ld,ban,pan,cl,ca,pi,wo,gv,aa,fv,lr,lp,ba,pa⟩ hc R K=>by
  obtain⟨h1,h2⟩:=c_lG2_iff.1 hc;dsimp only at*
  refine(yS R K q ((pin:Int)) k can pin pc won gvn aan fvn rr lrn lpn ld ban pan cl ca pi wo gv aa fv lr lp ba pa).trans ?_;rw[F8 pin];rfl)
theorem Abq:Ai CG lG7.C:=lG7.ok (by kernel_rfl)
 (fun its x h hc=>by
  replace h:jR its=some x:=h;unfold jR at h;split at h
  ·cases h;obtain⟨h1,h2⟩:=c_lG7_iff.1 hc;dsimp only at h1;subst h1;rfl
  ·cases h)
 (fun x hc=>by have:=c_lG7_iff.1 hc;show x.won<18446744073709551616;omega)
 (fun q ⟨j0,k,can,pin,pc,won,gvn,aan,fvn,rr,lrn,lpn,ld,ban,pan,cl,ca,pi,wo,gv,aa,fv,lr,lp,ba,pa⟩ j hc hi R K=>by
  obtain⟨h1,h2⟩:=c_lG7_iff.1 hc;dsimp only at*
  replace hi:j<won:=hi;refine(xI R K q ((j:Int)) k can pin pc won gvn aan fvn rr lrn lpn ld ban pan cl ca pi wo gv aa fv lr lp ba pa).trans ?_;rw[A9 j,AE j,gd j won hi,Fe j won hi,wsL (by omega)];rfl)
 (fun q ⟨j0,k,can,pin,pc,won,gvn,aan,fvn,rr,lrn,lpn,ld,ban,pan,cl,ca,pi,wo,gv,aa,fv,lr,lp,ba,pa⟩ hc R K=>by
  obtain⟨h1,h2⟩:=c_lG7_iff.1 hc;dsimp only at*
  refine(xI R K q ((won:Int)) k can pin pc won gvn aan fvn rr lrn lpn ld ban pan cl ca pi wo gv aa fv lr lp ba pa).trans ?_;rw[F8 won];rfl)
def gpn(r:Row):Bool:=(decide ((r.n:Int)>30)&&decide ((r.n:Int)<=200))||decide ((r.n:Int)>210)
def grX(x:Dc):Bool:=Ap (fun j=>TY (x.pi.R j 0)) x.pi.n 0||(Ap (fun j=>decide (((x.wo.R j 0).n:Int)>20)) x.wo.n 0||(gr6 (Ad x.ca) (Ad x.pi)||(decide ((x.wo.n:Int)>20)||(VX (Ad x.gv) (Ad x.aa)||(V9 (Ad x.fv) (Ad x.lr) (Ad x.lp)||(grb (Ad x.ba)||gpn x.pa))))))
def grC(x:Dc):Bool:=x.ca.n<=9223372036854775807∧x.pi.n<=9223372036854775807∧x.wo.n<=9223372036854775807
def Ahs:FD
 |[d]=>match Hg d with
  |some x=>some (grC x,[.v (.bool (grX x))])
  |none=>none
 |_=>none
theorem Aih:Bi CG:=Aq enter mixed (fun p h=>by
 simp only[A8,A7,or_false]at h;rcases h with rfl|rfl|rfl|rfl|rfl
 ·exact WP
 ·exact uJ
 ·exact uH
 ·exact jU
 ·exact uQ) (fun l h=>by
 simp only[A8,A7,or_false]at h;rcases h with rfl|rfl
 ·exact Ady
 ·exact Abq)
theorem Pv{c b:Bool}{t:OD}(h:t=some [D.v (.bool b)]):br c (some [D.v (.bool true)]) t=some [D.v (.bool (c||b))]:=by rw[h];cases c<;>rfl
theorem den_grX:Den Tryz.prog 5 Ahs:=Ag Aih fun ds rs h=>by
 unfold Ahs at h;split at h
 ·split at h
  ·rename_i x hx;simp only[A5,A6]at h;obtain⟨h0,rfl⟩:=h;obtain⟨h1,h2,h3⟩:=AD h0;rw[EX hx];refine(uG x.k x.ca x.pi x.pc x.wo x.gv x.aa x.fv x.rr x.lr x.lp x.ld x.ba x.pa x.cl).trans ?_;rw[c_lG2_iff.2 ⟨rfl,h2⟩,Aa,c_lG7_iff.2 ⟨rfl,h3⟩,Aa];show br (Ap (fun j=>TY (x.pi.R j 0)) x.pi.n 0) _ (br (Ap (fun j=>decide (((x.wo.R j 0).n:Int)>20)) x.wo.n 0) _ (br (decide ((w_ x.ca 0 x.ca.n).n<=9223372036854775807∧(w_ x.pi 0 x.pi.n).n<=9223372036854775807)) (br (gr6 (Ad x.ca) (Ad x.pi)) _ (br (decide ((x.wo.n:Int)>20)) _ (br (decide ((w_ x.gv 0 x.gv.n).n=(w_ x.gv 0 x.gv.n).n)) (br (VX (Ad x.gv) (Ad x.aa)) _ (br (V9 (Ad x.fv) (Ad x.lr) (Ad x.lp)) _ (br (grb (Ad x.ba)) _ (br (decide ((x.pa.n:Int)>30)) (br (decide ((x.pa.n:Int)<=200)) _ _) _)))) none))) none))=some [D.v (.bool (Ap (fun j=>TY (x.pi.R j 0)) x.pi.n 0||(Ap (fun j=>decide (((x.wo.R j 0).n:Int)>20)) x.wo.n 0||(gr6 (Ad x.ca) (Ad x.pi)||(decide ((x.wo.n:Int)>20)||(VX (Ad x.gv) (Ad x.aa)||(V9 (Ad x.fv) (Ad x.lr) (Ad x.lp)||(grb (Ad x.ba)||gpn x.pa))))))))];rw[A4 (show(w_ x.ca 0 x.ca.n).n<=9223372036854775807∧(w_ x.pi 0 x.pi.n).n<=9223372036854775807 by rw[wn_,wn_];exact⟨h1,h2⟩),Aa,A4 (rfl:(w_ x.gv 0 x.gv.n).n=_),Aa];refine Pv (Pv (Pv (Pv (Pv (Pv (Pv ?_))))));unfold gpn;cases decide ((x.pa.n:Int)>30)<;>cases decide ((x.pa.n:Int)<=200)<;>rfl
  ·cases h
 ·cases h
def SmP(x y:Dc):Prop:=(x.k=y.k∧x.cl=y.cl∧x.pc=y.pc∧x.rr=y.rr∧x.ld=y.ld)∧(x.ca.n=y.ca.n∧x.ca.n<=1000000∧CkE x.ca y.ca x.ca.n)∧(x.pi.n=y.pi.n∧x.pi.n<=1000000∧Qs 4 x.pi y.pi x.pi.n)∧(x.wo.n=y.wo.n∧x.wo.n<=1000000∧Qs 2 x.wo y.wo x.wo.n)∧(x.gv.n=y.gv.n∧x.gv.n<=1000000∧Qs 1 x.gv y.gv x.gv.n)∧(x.aa.n<=1000000∧Hm 1 x.aa y.aa)∧(x.fv.n=y.fv.n∧x.fv.n<=1000000∧Qs 1 x.fv y.fv x.fv.n)∧(x.lr.n<=1000000∧Hm 1 x.lr y.lr)∧(x.lp.n<=1000000∧Hm 1 x.lp y.lp)∧(x.ba.n<=1000000∧Hm 1 x.ba y.ba)∧(x.pa.n<=1000000∧Hm 3 x.pa y.pa)
instance(x y:Dc):Decidable (SmP x y):=by unfold SmP;infer_instance
def smB(x y:Dc):Bool:=SmP x y
def Aje:FD
 |[d,e]=>match Hg d,Hg e with
  |some x,some y=>some (smB x y,[.v (.bool true)])
  |_,_=>none
 |_=>none
theorem Afz:Bi Crs:=Aq enter mixed (fun p h=>by
 simp only[A8,A7,or_false]at h;rcases h with rfl|rfl|rfl|rfl|rfl|rfl|rfl|rfl
 ·exact Abr
 ·exact Aca
 ·exact Adb
 ·exact Abl
 ·exact tY
 ·exact pW
 ·exact Acd
 ·exact Afi) (fun l h=>by
 simp only[A8,A7,or_false]at h;rcases h with rfl;exact Abc)
theorem rww{m:Nat}{r s:Row}(h:r.n=s.n∧r.n<=1000000∧Qs m r s r.n):(w_ r 0 r.n).n=(w_ s 0 s.n).n∧(w_ r 0 r.n).n<=1000000∧Qs m (w_ r 0 r.n) (w_ s 0 s.n) (w_ r 0 r.n).n:=by
 refine⟨by rw[wn_,wn_];exact h.1,by rw[wn_];exact h.2.1,fun i hi=>?_⟩;rw[wn_]at hi;exact h.2.2 i hi
theorem den_smX:Den Tryz.prog 12 Aje:=Ag Afz fun ds rs h=>by
 unfold Aje at h;split at h
 ·split at h
  ·rename_i x y hx hy;simp only[A5,A6]at h;obtain⟨h0,rfl⟩:=h;obtain⟨⟨e1,e2,e3,e4,e5⟩,⟨e6,e7,e8⟩,e9,e10,e11,e12,e13,e14,e15,e16,e17⟩:=AD h0;rw[EX hx,EX hy];refine(urs x.k x.ca x.pi x.pc x.wo x.gv x.aa x.fv x.rr x.lr x.lp x.ld x.ba x.pa x.cl y.k y.ca y.pi y.pc y.wo y.gv y.aa y.fv y.rr y.lr y.lp y.ld y.ba y.pa y.cl).trans ?_;rw[ET e1,Ac,ET e2,Ac,ET e3,Ac,uU e6,Ac,A4 (rww e9),Aa,A4 (rww e10),Aa,c_lrs_iff.2 ⟨rfl,e6.symm,e7,e8⟩,Aa,any0,Ac];show br (decide ((w_ x.gv 0 x.gv.n).n=(w_ y.gv 0 y.gv.n).n∧(w_ x.gv 0 x.gv.n).n<=1000000∧Qs 1 (w_ x.gv 0 x.gv.n) (w_ y.gv 0 y.gv.n) (w_ x.gv 0 x.gv.n).n)) (br (decide ((w_ x.aa 0 x.aa.n).n<=1000000∧Hm 1 (w_ x.aa 0 x.aa.n) (w_ y.aa 0 y.aa.n))) (br (decide ((w_ x.fv 0 x.fv.n).n=(w_ y.fv 0 y.fv.n).n∧(w_ x.fv 0 x.fv.n).n<=1000000∧Qs 1 (w_ x.fv 0 x.fv.n) (w_ y.fv 0 y.fv.n) (w_ x.fv 0 x.fv.n).n)) (br (x.rr !=y.rr) _ (br (decide (x.ld=y.ld∧(w_ x.lr 0 x.lr.n).n<=1000000∧(w_ x.lp 0 x.lp.n).n<=1000000∧Hm 1 (w_ x.lr 0 x.lr.n) (w_ y.lr 0 y.lr.n)∧Hm 1 (w_ x.lp 0 x.lp.n) (w_ y.lp 0 y.lp.n))) (br (decide ((w_ x.ba 0 x.ba.n).n<=1000000∧Hm 1 (w_ x.ba 0 x.ba.n) (w_ y.ba 0 y.ba.n))) (br (decide ((w_ x.pa 0 x.pa.n).n<=1000000∧Hm 3 (w_ x.pa 0 x.pa.n) (w_ y.pa 0 y.pa.n))) _ none) none) none)) none) none) none=_;rw[A4 (rww e11),Aa,A4 (UU e12),Aa,A4 (rww e13),Aa,ET e4,Ac,A4 ⟨e5,(UU e14).1,(UU e15).1,(UU e14).2,(UU e15).2⟩,Aa,A4 (UU e16),Aa,A4 (UU e17),Aa]
  ·cases h
 ·cases h
def NumsOk(r:Row):Prop:=r.n<=1000000∧∀j,j<r.n->iR (r.I j 0)=true
def RowsOk(m:Nat)(r:Row):Prop:=r.n<=1000000∧∀e,e<r.n->(r.R e 0).n<=1000000∧∀j,j<(r.R e 0).n->∀c,c<m->iR ((r.R e 0).I j c)=true
def ZG(r:Row):Prop:=r.n<=1000000∧∀e,e<r.n->iR (r.I e 0)=true∧NumsOk (r.R e 1)∧NumsOk (r.R e 2)
def fE(r:Row):Prop:=r.n<=1000000∧∀e,e<r.n->∀c,c<3->iR (r.I e c)=true
structure DcOk(x:Dc):Prop where
 ca:ZG x.ca
 pi:RowsOk 4 x.pi
 wo:RowsOk 2 x.wo
 gv:RowsOk 1 x.gv
 aa:NumsOk x.aa
 fv:RowsOk 1 x.fv
 lr:NumsOk x.lr
 lp:NumsOk x.lp
 ba:NumsOk x.ba
 pa:fE x.pa
 rr:iR x.rr=true
 ld:iR x.ld=true
 pc:0<=x.pc∧x.pc<=255
 cl:0<=x.cl∧x.cl<=255
theorem GL{n:Int}(h:iR n=true):Rt.iR n=true:=by
 unfold iR at h;unfold Rt.iR;have:=AD h;simp only[A2,A3];omega
theorem Aif(r:Row):(Ad r).n=r.n:=wn_
theorem Wu{x:Dc}(h:DcOk x):wO vB x=true:=by
 have h1:(fH (Ad x.ca) (Ad x.pi)&&(!decide (x.pc<=31)||sqC (Ad x.wo) x.ca.n))=true:=by
  have a:fH (Ad x.ca) (Ad x.pi)=true:=by
   refine A4 ⟨h.ca.1,fun i hi=>⟨(h.ca.2 i hi).2.1.1,(h.ca.2 i hi).2.2.1⟩,h.pi.1,fun i hi=>⟨(h.pi.2 i hi).1,fun k hk=>?_⟩⟩;have g:=(h.pi.2 i hi).2 k hk;show(Rt.iR ((x.pi.R i 0).I k 0)&&Rt.iR ((x.pi.R i 0).I k 1)&&Rt.iR ((x.pi.R i 0).I k 2)&&Rt.iR ((x.pi.R i 0).I k 3))=true;rw[GL (g 0 (by decide)),GL (g 1 (by decide)),GL (g 2 (by decide)),GL (g 3 (by decide))];rfl
  have b:sqC (Ad x.wo) x.ca.n=true:=by
   refine A4 ⟨h.wo.1,fun i hi=>⟨(h.wo.2 i hi).1,fun k hk=>?_⟩⟩;have g:=(h.wo.2 i hi).2 k hk;show(Rt.iR ((x.wo.R i 0).I k 0)&&Rt.iR ((x.wo.R i 0).I k 1))=true;rw[GL (g 0 (by decide)),GL (g 1 (by decide))];rfl
  rw[a,b];cases decide (x.pc<=31)<;>rfl
 have h2:decide (x.gv.n<=1000000∧x.aa.n<=1000000)=true:=A4 ⟨h.gv.1,h.aa.1⟩;have ha:N7 (Ad x.fv)=true:=A4 ⟨h.fv.1,fun i hi=>(h.fv.2 i hi).1⟩;have hb:N7 (Ad (Ad x.fv))=true:=ha;have h3:(Uo (Ad x.fv) x.rr&&YQ (Vo (fun a _=>decide (a.n<=1000000))) (Ad x.fv) x.rr (Ad x.lr) (Ad x.lp) x.ld)=true:=by
  show(N7 (Ad x.fv)&&(N7 (Ad x.fv)&&(N7 (Ad (Ad x.fv))&&decide ((Ad (Ad (Ad x.lr))).n<=1000000))&&decide ((Ad x.lp).n<=1000000)))=true;rw[ha,hb,A4 (show(Ad (Ad (Ad x.lr))).n<=1000000 from h.lr.1),A4 (show(Ad x.lp).n<=1000000 from h.lp.1)];rfl
 have h4:Ld.gpC (Ad x.ba)=true:=by
  by_cases e:Ld.ckE (Ad x.ba)=0
  ·exact(Ld.Mk.groups_ok e).1
  ·unfold Ld.gpC;rw[show(Ld.ckE (Ad x.ba) !=0)=true by simpa using e];rfl
 show(GK x||(Qd x.k x||(bif x.k==1 then(fH (Ad x.ca) (Ad x.pi)&&(!decide (x.pc<=31)||sqC (Ad x.wo) x.ca.n))else bif x.k==2 then decide (x.gv.n<=1000000∧x.aa.n<=1000000)else bif x.k==3 then(Uo (Ad x.fv) x.rr&&YQ (Vo (fun a _=>decide (a.n<=1000000))) (Ad x.fv) x.rr (Ad x.lr) (Ad x.lp) x.ld)else Ld.gpC (Ad x.ba))))=true;rw[h1,h2,h3,h4];cases GK x<;>cases Qd x.k x<;>cases x.k==1<;>cases x.k==2<;>cases x.k==3<;>rfl
theorem bz{c:Bool}{k t:Int}(hk:k≠0)(h:(bif c then k else t)=0):c=false∧t=0:=by
 cases c
 ·exact⟨rfl,h⟩
 ·exact absurd h hk
theorem Yk{e t:Int}(h:(bif e !=0 then e else t)=0):e=0∧t=0:=by
 by_cases he:e=0
 ·subst he;exact⟨rfl,h⟩
 ·rw[show(e !=0)=true by simpa using he]at h;exact absurd h he
theorem Xb{e:Int}{ok:Bool}(h:Zj e ok=0):e=0∧ok=true:=by
 unfold Zj at h;obtain⟨h1,h2⟩:=bz (by decide) h;subst h2;cases ok
 ·cases h1
 ·exact⟨rfl,rfl⟩
structure CkV(x:Dc):Prop where
 k:x.k=1∨x.k=2∨x.k=3∨x.k=4
 ot:Qd x.k x=false
 c0:x.k=1->x.cl=0
 k1:x.k=1->Uw (Ad x.ca) (Ad x.pi)=0∧x.pc<=31∧wP (Ad x.wo) x.ca.n=true
 k2:x.k=2->chkE x.gv=0∧AZ x.gv x.aa=0∧x.cl<=31
 k3:x.k=3->PH (Ad x.fv) x.rr=0∧YP (TR KY) (Ad x.fv) x.rr (Ad x.lr) (Ad x.lp) x.ld=0∧x.cl<=3
 k4:x.k=4->Ld.ckE (Ad x.ba)=0∧Ld.Lg.chk x.ba.n (Ad x.pa)=0∧x.cl<=3
theorem oL{x:Dc}(h:ckE vB x=0):CkV x:=by
 unfold ckE at h;obtain⟨h1,h2⟩:=bz (by decide) h;rw[AI]at h1;obtain⟨h1,h3⟩:=h1;have hk:x.k=1∨x.k=2∨x.k=3∨x.k=4:=by
  unfold GK at h1;simp only[AI,decide_eq_false_iff_not]at h1;omega
 refine⟨hk,h3,fun e=>?_,fun e=>?_,fun e=>?_,fun e=>?_,fun e=>?_⟩
 ·unfold GK at h1;rw[e]at h1;simp only[AI]at h1;have:=h1.2.2;simpa using this
 ·rw[e]at h2;replace h2:Zj (Uw (Ad x.ca) (Ad x.pi)) (decide (x.pc<=31)&&wP (Ad x.wo) x.ca.n)=0:=h2;obtain⟨a,b⟩:=Xb h2;rw[A2]at b;exact⟨a,AD b.1,b.2⟩
 ·rw[e]at h2;replace h2:Zj (two (chkE x.gv) (AZ x.gv x.aa)) (decide (x.cl<=31))=0:=h2;obtain⟨a,b⟩:=Xb h2;obtain⟨c,d⟩:=Yk a;exact⟨c,d,AD b⟩
 ·rw[e]at h2;replace h2:Zj (two (PH (Ad x.fv) x.rr) (YP (TR KY) (Ad x.fv) x.rr (Ad x.lr) (Ad x.lp) x.ld)) (decide (x.cl<=3))=0:=h2;obtain⟨a,b⟩:=Xb h2;obtain⟨c,d⟩:=Yk a;exact⟨c,d,AD b⟩
 ·rw[e]at h2;replace h2:Zj (two (Ld.ckE (Ad x.ba)) (Ld.Lg.chk x.ba.n (Ad x.pa))) (decide (x.cl<=3))=0:=h2;obtain⟨a,b⟩:=Xb h2;obtain⟨c,d⟩:=Yk a;exact⟨c,d,AD b⟩
theorem Jq{p:Nat->Bool}{n:Nat}(h:Ap p n 0=false){j:Nat}(hj:j<n):p j=false:=anyF_false.1 h j (Nat.zero_le _) (by omega)
theorem VQ{p:Nat->Bool}{f:Nat->Int}{n:Nat}{t:Int}(hp:∀j,p j=(f j !=0))(h:(bif Ap p n 0 then f (FU p n 0)else t)=0):Ap p n 0=false∧t=0:=by
 cases c:Ap p n 0
 ·rw[c]at h;exact⟨rfl,h⟩
 ·rw[c]at h;have h':f (FU p n 0)=0:=h;have:=(Po p n 0 c).2.1;rw[hp,h']at this;cases this
theorem zL{r:Row}(h:Nw r=0):r.n<=6∧∀j,j<r.n->O8 r j=0:=by
 unfold Nw at h;obtain⟨h1,h⟩:=bz (by decide) h;obtain⟨h2,h⟩:=bz (by decide) h;obtain⟨h3,h⟩:=VQ (fun _=>rfl) h;have:=AO h1;exact⟨by omega,fun j hj=>by have:=Jq h3 hj;simpa using this⟩
theorem Aas{l:Int}{p q:Row}(h:Tj l p q=0):2<=p.n∧p.n<=40∧q.n+1=p.n:=by
 unfold Tj at h;obtain⟨h1,h⟩:=bz (by decide) h;obtain⟨h2,h⟩:=bz (by decide) h;obtain⟨h3,h⟩:=bz (by decide) h;obtain⟨h4,h⟩:=bz (by decide) h;obtain⟨h5,h⟩:=bz (by decide) h;have a:=AO h2;have b:=AO h4;have c:(q.n:Int)=(p.n:Int)-1:=by simpa using h5
 omega
theorem yC{r s:Row}(h:Uw r s=0):Nw r=0∧s.n=r.n∧∀j,j<s.n->(s.R j 0).n<=60:=by
 unfold Uw at h;obtain⟨h1,h⟩:=Yk h;obtain⟨h2,h⟩:=bz (by decide) h;obtain⟨h3,h⟩:=VQ (fun _=>rfl) h;refine⟨h1,by
  have:(s.n:Int)=(r.n:Int):=by simpa using h2
  omega,fun j hj=>?_⟩
 have g:LH s j=0:=by have:=Jq h3 hj;simpa using this
 unfold LH V7 at g;obtain⟨g1,_⟩:=Yk g;unfold Ny at g1;obtain⟨g2,_⟩:=bz (by decide) g1;have:=AO g2;have e:(w_ (s.R j 0) 0 (s.R j 0).n).n=(s.R j 0).n:=wn_;omega
theorem Ahw{r:Row}{k:Int}(h:wP r k=true):(r.n:Int)=k∧∀j,j<r.n->((r.R j 0).n:Int)=k∧VJ (r.R j 0)=false:=by
 unfold wP at h;rw[A2,Bool.not_eq_true']at h;refine⟨by simpa using h.2,fun j hj=>?_⟩;have g:=Jq h.1 hj;rw[AI]at g;exact⟨by simpa using g.2,g.1⟩
theorem Xv{x:Dc}(hx:DcOk x)(h:ckE vB x=0):YL x=true:=by
 have v:=oL h;unfold YL;rcases v.k with e|e|e|e
 ·obtain⟨h1,h2,h3⟩:=v.k1 e;obtain⟨a1,a2,a3⟩:=yC h1;obtain⟨b1,b2⟩:=zL a1;obtain⟨c1,c2⟩:=Ahw h3;have hn:(Ad x.ca).n=x.ca.n:=wn_;have hp:(Ad x.pi).n=x.pi.n:=wn_;have hw:(Ad x.wo).n=x.wo.n:=wn_;rw[hn]at b1;have:X7 x:=by
   refine⟨e,⟨by omega,fun i hi=>?_,fun i hi=>(hx.ca.2 i hi).2.1.2,fun i hi=>(hx.ca.2 i hi).2.2.2⟩,⟨by omega,fun i hi=>?_,fun i hi j hj c hc=>GL ((hx.pi.2 i hi).2 j hj c hc)⟩,⟨by omega,fun i hi=>?_,fun i hi j hj c hc=>GL ((hx.wo.2 i hi).2 j hj c hc)⟩,hx.pc.1,hx.pc.2,hx.cl.1,hx.cl.2⟩
   ·have g:=Aas (b2 i (by omega));have e1:(w_ ((Ad x.ca).R i 1) 0 ((Ad x.ca).R i 1).n).n=(x.ca.R i 1).n:=wn_;have e2:(w_ ((Ad x.ca).R i 2) 0 ((Ad x.ca).R i 2).n).n=(x.ca.R i 2).n:=wn_;rw[e1,e2]at g;exact⟨by omega,by omega,by omega,(hx.ca.2 i hi).1⟩
   ·have g:=a3 i (by omega);have e1:((Ad x.pi).R i 0).n=(x.pi.R i 0).n:=rfl;omega
   ·have g:=(c2 i (by omega)).1;have e1:((Ad x.wo).R i 0).n=(x.wo.R i 0).n:=rfl;omega
  rw[A4 this];simp
 ·obtain⟨h1,h2,h3⟩:=v.k2 e;have k1:=h1;unfold chkE at h1;obtain⟨a1,h1⟩:=bz (by decide) h1;rw[AI]at a1;have a2:=AO a1.1;obtain⟨b1,h1⟩:=bz (by decide) h1;rw[AI]at b1;have b2:x.gv.n≠0:=by have:=b1.1;simpa using this
  have a3:∀i,i<x.gv.n->(x.gv.R i 0).n<=10:=fun i hi=>by
   have:=AO (Jq a1.2 hi);omega
  unfold AZ at h2;obtain⟨_,h2⟩:=Yk h2;obtain⟨c1,_⟩:=bz (by decide) h2;rw[AI]at c1;have c2:(x.aa.n:Int)=((x.gv.R 0 0).n:Int):=by simpa using c1.1
  have c3:=a3 0 (by omega);have:kP x:=⟨e,by omega,fun i hi=>by have:=a3 i hi;omega,fun i hi j hj=>(hx.gv.2 i hi).2 j hj 0 (by decide),by omega,hx.aa.2,hx.pc.1,hx.pc.2,hx.cl.1,hx.cl.2⟩;rw[A4 this];simp
 ·obtain⟨h1,h2,h3⟩:=v.k3 e;unfold PH at h1;obtain⟨a1,_⟩:=Yk h1;obtain⟨b1,b2,b3⟩:=QH a1;have hn:(Ad x.fv).n=x.fv.n:=wn_;unfold YP at h2;obtain⟨_,h2⟩:=Yk h2;obtain⟨c1,h2⟩:=Yk h2;obtain⟨_,h2⟩:=bz (by decide) h2;obtain⟨_,h2⟩:=bz (by decide) h2;obtain⟨c4,h2⟩:=bz (by decide) h2;have c5:((Ad x.lp).n:Int)=((Ad x.fv).n:Int):=by simpa using c4
  have hl:(Ad x.lp).n=x.lp.n:=wn_;unfold TR at c1;obtain⟨_,c1⟩:=Yk c1;obtain⟨d1,_⟩:=bz (by decide) c1;rw[Bool.not_eq_false']at d1;have d2:=(Uj _ _ d1).1;have d3:(Ad (Ad (Ad x.lr))).n=x.lr.n:=rfl;have d4:(Ad (Ad x.fv)).n=x.fv.n:=rfl;have:aY x:=⟨e,by omega,fun i hi=>by have:=(b3 i (by omega)).1;have e1:((Ad x.fv).R i 0).n=(x.fv.R i 0).n:=rfl;omega,fun i hi j hj=>(hx.fv.2 i hi).2 j hj 0 (by decide),by omega,hx.lr.2,by omega,by omega,hx.lp.2,hx.rr,hx.ld,hx.pc.1,hx.pc.2,hx.cl.1,hx.cl.2⟩;rw[A4 this];simp
 ·obtain⟨h1,h2,h3⟩:=v.k4 e;have hb:(Ad x.ba).n=x.ba.n:=wn_;have hp:(Ad x.pa).n=x.pa.n:=wn_;have a1:x.ba.n<=10:=by
   unfold Ld.ckE at h1;split at h1
   ·cases h1
   ·omega
  unfold Ld.Lg.chk at h2;have a2:x.pa.n<=200:=by
   cases c:Ld.Lg.partiesB (x.ba.n:Int)
   ·rw[c]at h2;cases h2
   ·rw[c]at h2;replace h2:(bif ((Ad x.pa).n:Int)>200 then(4:Int)else bif Ap (Ld.Lg.bad (x.ba.n:Int) (Ad x.pa)) (Ad x.pa).n 0 then 8 else 0)=0:=h2;obtain⟨g,_⟩:=bz (by decide) h2;have:=AO g;omega
  have:oO x:=⟨e,by omega,hx.ba.2,by omega,fun i hi c hc=>hx.pa.2 i hi c hc,hx.pc.1,hx.pc.2,hx.cl.1,hx.cl.2⟩;rw[A4 this];simp
open Go.Lib Go.RowKit
theorem _root_.Go.Ev.RdA.I{ks:List CK}{r r':Row}(h:RdA ks r r'){k:IntKind}{c:Nat}(hc:ks[c]? =some (.int k)){e:Nat}(he:e<r.n):r.I e c=r'.I e c:=by
 cases h with
 |mk hn hh=>
  cases hh e c _ he hc with
  |int h=>exact h
theorem _root_.Go.Ev.RdA.R{ks:List CK}{r r':Row}(h:RdA ks r r'){sub:List CK}{c:Nat}(hc:ks[c]? =some (.slice sub)){e:Nat}(he:e<r.n):RdA sub (r.R e c) (r'.R e c):=by
 cases h with
 |mk hn hh=>
  cases hh e c _ he hc with
  |slice h=>exact h
abbrev SY:List CK:=[.int .i64]
abbrev kC1:List CK:=[.int .i64,.slice [.int .i64],.slice [.int .i64]]
abbrev kP1:List CK:=[.slice [.int .i64,.int .i64,.int .i64,.int .i64]]
abbrev kW1:List CK:=[.slice [.int .i64,.int .i64]]
abbrev kL1:List CK:=[.slice [.int .i64]]
abbrev k31:List CK:=[.int .i64,.int .i64,.int .i64]
structure AlDc(x y:Dc):Prop where
 k:x.k=y.k
 ca:RdA kC1 x.ca y.ca
 pi:RdA kP1 x.pi y.pi
 pc:x.pc=y.pc
 wo:RdA kW1 x.wo y.wo
 gv:RdA kL1 x.gv y.gv
 aa:RdA SY x.aa y.aa
 fv:RdA kL1 x.fv y.fv
 rr:x.rr=y.rr
 lr:RdA SY x.lr y.lr
 lp:RdA SY x.lp y.lp
 ld:x.ld=y.ld
 ba:RdA SY x.ba y.ba
 pa:RdA k31 x.pa y.pa
 cl:x.cl=y.cl
theorem AlDc.can(x:Dc):AlDc x (Dh x):=⟨rfl,BB ..,BB ..,rfl,BB ..,BB ..,BB ..,BB ..,rfl,BB ..,BB ..,rfl,BB ..,BB ..,rfl⟩
theorem AlDc.eq{x y:Dc}(h:AlDc x y):Dh x=Dh y:=by
 unfold Dh;rw[h.k,Eo 5 _ _ _ rfl h.ca,Eo 5 _ _ _ rfl h.pi,h.pc,Eo 5 _ _ _ rfl h.wo,Eo 5 _ _ _ rfl h.gv,Eo 5 _ _ _ rfl h.aa,Eo 5 _ _ _ rfl h.fv,h.rr,Eo 5 _ _ _ rfl h.lr,Eo 5 _ _ _ rfl h.lp,h.ld,Eo 5 _ _ _ rfl h.ba,Eo 5 _ _ _ rfl h.pa,h.cl]
theorem NumsOk.al{r r':Row}(h:RdA SY r r')(hr:NumsOk r):NumsOk r':=⟨by rw[<-h.hn];exact hr.1,fun j hj=>by rw[<-h.hn]at hj;rw[<-h.I (k:=.i64) (c:=0) rfl hj];exact hr.2 j hj⟩
theorem RowsOk.al{m:Nat}{sub:List CK}{r r':Row}(h:RdA [.slice sub] r r')(hs:∀c,c<m->sub[c]? =some (.int .i64))(hr:RowsOk m r):RowsOk m r':=⟨by rw[<-h.hn];exact hr.1,fun e he=>by
 rw[<-h.hn]at he;have g:=h.R (sub:=sub) (c:=0) rfl he;obtain⟨h1,h2⟩:=hr.2 e he;refine⟨by rw[<-g.hn];exact h1,fun j hj c hc=>?_⟩;rw[<-g.hn]at hj;rw[<-g.I (hs c hc) hj];exact h2 j hj c hc⟩
theorem lt1{c:Nat}(h:c<1):c=0:=by omega
theorem lt2{c:Nat}(h:c<2):c=0∨c=1:=by omega
theorem lt3{c:Nat}(h:c<3):c=0∨c=1∨c=2:=by omega
theorem lt4{c:Nat}(h:c<4):c=0∨c=1∨c=2∨c=3:=by omega
theorem DcOk.al{x y:Dc}(h:AlDc x y)(o:DcOk x):DcOk y where
 ca:=⟨by rw[<-h.ca.hn];exact o.ca.1,fun e he=>by
  rw[<-h.ca.hn]at he;obtain⟨h1,h2,h3⟩:=o.ca.2 e he;exact⟨by rw[<-h.ca.I (k:=.i64) (c:=0) rfl he];exact h1,NumsOk.al (h.ca.R (sub:=SY) (c:=1) rfl he) h2,NumsOk.al (h.ca.R (sub:=SY) (c:=2) rfl he) h3⟩⟩
 pi:=o.pi.al h.pi fun c hc=>by rcases lt4 hc with rfl|rfl|rfl|rfl<;>rfl
 wo:=o.wo.al h.wo fun c hc=>by rcases lt2 hc with rfl|rfl<;>rfl
 gv:=o.gv.al h.gv fun c hc=>by rw[lt1 hc];rfl
 aa:=o.aa.al h.aa
 fv:=o.fv.al h.fv fun c hc=>by rw[lt1 hc];rfl
 lr:=o.lr.al h.lr
 lp:=o.lp.al h.lp
 ba:=o.ba.al h.ba
 pa:=⟨by rw[<-h.pa.hn];exact o.pa.1,fun e he c hc=>by
  rw[<-h.pa.hn]at he;have:k31[c]? =some (.int .i64):=by rcases lt3 hc with rfl|rfl|rfl<;>rfl
  rw[<-h.pa.I this he];exact o.pa.2 e he c hc⟩
 rr:=by rw[<-h.rr];exact o.rr
 ld:=by rw[<-h.ld];exact o.ld
 pc:=by rw[<-h.pc];exact o.pc
 cl:=by rw[<-h.cl];exact o.cl
theorem Ait{l:List UInt8}(h:XL l=false):iR (WW l)=true:=by
 unfold XL at h;unfold WW;cases e:Lib.atoiAll l with
 |ok v=>exact A4 (Lib.atoiAll_bounds e)
 |_=>rw[e]at h;cases h
theorem sJ{n d:Int}(h:Rt.goodR n d):iR n=true∧iR d=true:=by
 obtain⟨⟨h1,h2⟩,⟨h3,h4⟩,_⟩:=h;exact⟨A4 ⟨by omega,by omega⟩,A4 ⟨by omega,by omega⟩⟩
theorem uX{r:Row}(hz:BN r=true):NumsOk (BD r):=by
 cases hB:DJ r with
 |false=>
  have:BD r=.nil:=by
   unfold BD;unfold DJ at hB;rw[show(ZB r).1=true by simpa using hB];rfl
  rw[this];exact⟨Nat.zero_le _,fun j hj=>absurd hj (Nat.not_lt_zero _)⟩
 |true=>
  obtain⟨h1,h2⟩:=dN r;obtain⟨h3,h4⟩:=h2 hB;rw[hB]at h1;have h1':Ap (fun j=>XL (Ae (r.S j 0))) r.n 0=false:=by simpa using h1.symm
  refine⟨by rw[h3];exact(Q8 hz).1,fun j hj=>?_⟩;rw[h3]at hj;rw[h4 j hj];exact Ait (anyF_false.1 h1' j (Nat.zero_le _) (by omega))
theorem vF{r:Row}(hz:BN r=true):(Dy r).n<=1000000∧∀j,j<(Dy r).n->iR ((Dy r).I j 0)=true∧iR ((Dy r).I j 1)=true:=by
 cases hB:Em r with
 |false=>
  have:Dy r=.nil:=by
   unfold Dy;unfold Em at hB;rw[show(bK r).1=true by simpa using hB];rfl
  rw[this];exact⟨Nat.zero_le _,fun j hj=>absurd hj (Nat.not_lt_zero _)⟩
 |true=>
  obtain⟨h1,h2⟩:=bM r;obtain⟨h3,h4⟩:=h2 hB;rw[hB]at h1;have h1':Ap (fun j=>Rt.rpE (Ae (r.S j 0)) !=0) r.n 0=false:=by simpa using h1.symm
  refine⟨by rw[h3];exact(Q8 hz).1,fun j hj=>?_⟩;rw[h3]at hj;obtain⟨g1,g2⟩:=h4 j hj;rw[g1,g2];have:=anyF_false.1 h1' j (Nat.zero_le _) (by omega);exact sJ (Rt.rp_sound (by simpa using this)).1
theorem Aj1(r:Row)(a b c d:Int):(UW r a b c d).n=r.n+1:=rfl
theorem SB(r:Row)(a b c d:Int){i:Nat}(h:i<r.n)(j:Nat):(UW r a b c d).I i j=r.I i j:=congrFun (Ox (w_ r 0 r.n) (w_ (((((Row.zeros 1).setI 0 0 a).setI 0 1 b).setI 0 2 c).setI 0 3 d) 0 1) (i:=i) h).1.1 j
theorem Aeo(r:Row)(a b c d:Int):(UW r a b c d).I r.n 0=a∧(UW r a b c d).I r.n 1=b∧(UW r a b c d).I r.n 2=c∧(UW r a b c d).I r.n 3=d:=by
 have h:=(OQ (w_ r 0 r.n) (w_ (((((Row.zeros 1).setI 0 0 a).setI 0 1 b).setI 0 2 c).setI 0 3 d) 0 1) (i:=r.n) (Nat.lt_irrefl _)).1.1;have e:r.n-(w_ r 0 r.n).n=0:=Nat.sub_self _;refine⟨(congrFun h 0).trans ?_,(congrFun h 1).trans ?_,(congrFun h 2).trans ?_,(congrFun h 3).trans ?_⟩<;>rw[e]<;>rfl
theorem WS(f0 f1 f2 f3:Nat->Int):∀(m j:Nat)(a:Row),a.n=j->(∀i,i<j->a.I i 0=f0 i∧a.I i 1=f1 i∧a.I i 2=f2 i∧a.I i 3=f3 i)->
  (AP (fun j a=>UW a (f0 j) (f1 j) (f2 j) (f3 j)) m j a).n=j+m∧∀i,i<j+m->(AP (fun j a=>UW a (f0 j) (f1 j) (f2 j) (f3 j)) m j a).I i 0=f0 i∧(AP (fun j a=>UW a (f0 j) (f1 j) (f2 j) (f3 j)) m j a).I i 1=f1 i∧(AP (fun j a=>UW a (f0 j) (f1 j) (f2 j) (f3 j)) m j a).I i 2=f2 i∧(AP (fun j a=>UW a (f0 j) (f1 j) (f2 j) (f3 j)) m j a).I i 3=f3 i
 |0,j,a,h1,h2=>⟨h1,h2⟩
 |m+1,j,a,h1,h2=>by
  have h:=WS f0 f1 f2 f3 m (j+1) (UW a (f0 j) (f1 j) (f2 j) (f3 j)) (by rw[Aj1,h1]) (fun i hi=>by
   by_cases hij:i<j
   ·rw[SB _ _ _ _ _ (by omega),SB _ _ _ _ _ (by omega),SB _ _ _ _ _ (by omega),SB _ _ _ _ _ (by omega)];exact h2 i hij
   ·have:i=a.n:=by omega
    obtain⟨g0,g1,g2,g3⟩:=Aeo a (f0 j) (f1 j) (f2 j) (f3 j);rw[this,g0,g1,g2,g3,h1];exact⟨rfl,rfl,rfl,rfl⟩)
  rw[show j+(m+1)=j+1+m by omega];exact h
theorem XV(q:Row):(Gi q).n=q.n/2∧∀i,i<q.n/2->(Gi q).I i 0=q.I (2*i) 0∧(Gi q).I i 1=q.I (2*i) 1∧(Gi q).I i 2=q.I (2*i+1) 0∧(Gi q).I i 3=q.I (2*i+1) 1:=by
 obtain⟨h1,h2⟩:=WS (fun j=>q.I (2*j) 0) (fun j=>q.I (2*j) 1) (fun j=>q.I (2*j+1) 0) (fun j=>q.I (2*j+1) 1) (q.n/2) 0 .nil rfl (fun i hi=>absurd hi (Nat.not_lt_zero _));exact⟨h1.trans (AE _),fun i hi=>h2 i (by omega)⟩
theorem RowsOk.app{m:Nat}{o w:Row}(h:RowsOk m o)(hn:o.n+1<=1000000)(hw:w.n<=1000000∧∀j,j<w.n->∀c,c<m->iR (w.I j c)=true):RowsOk m (DU o w):=⟨hn,fun e he=>by
 have he':e<o.n+1:=he;by_cases hlt:e<o.n
 ·rw[Je hlt];exact h.2 e hlt
 ·rw[IP (show e=o.n by omega)];exact hw⟩
theorem XF{o l:Row}{i:Nat}(h:i<o.n):(OB o l).I i=o.I i∧(OB o l).R i=o.R i:=by
 have:=Ox (w_ o 0 o.n) (w_ ((((Row.zeros 1).setI 0 0 (l.I 0 0)).setR 0 1 (w_ l 1 (l.n/2))).setR 0 2 (w_ l (0+(l.n/2+1)) (l.n-(l.n/2+1)))) 0 1) (i:=i) h;exact⟨this.1.1,this.2⟩
theorem Xu(o l:Row):(OB o l).I o.n 0=l.I 0 0∧(OB o l).R o.n 1=w_ l 1 (l.n/2)∧(OB o l).R o.n 2=w_ l (0+(l.n/2+1)) (l.n-(l.n/2+1)):=by
 have h:=OQ (w_ o 0 o.n) (w_ ((((Row.zeros 1).setI 0 0 (l.I 0 0)).setR 0 1 (w_ l 1 (l.n/2))).setR 0 2 (w_ l (0+(l.n/2+1)) (l.n-(l.n/2+1)))) 0 1) (i:=o.n) (Nat.lt_irrefl _);have e:o.n-(w_ o 0 o.n).n=0:=Nat.sub_self _;refine⟨(congrFun h.1.1 0).trans ?_,(congrFun h.2 1).trans ?_,(congrFun h.2 2).trans ?_⟩<;>rw[e]<;>rfl
theorem Xf{o l:Row}{i:Nat}(h:i<o.n):(PM o l).I i=o.I i:=(Ox (w_ o 0 o.n) (w_ ((((Row.zeros 1).setI 0 0 (l.I 0 0)).setI 0 1 (l.I 1 0)).setI 0 2 (l.I 2 0)) 0 1) (i:=i) h).1.1
theorem XE(o l:Row):(PM o l).I o.n 0=l.I 0 0∧(PM o l).I o.n 1=l.I 1 0∧(PM o l).I o.n 2=l.I 2 0:=by
 have h:=(OQ (w_ o 0 o.n) (w_ ((((Row.zeros 1).setI 0 0 (l.I 0 0)).setI 0 1 (l.I 1 0)).setI 0 2 (l.I 2 0)) 0 1) (i:=o.n) (Nat.lt_irrefl _)).1.1;have e:o.n-(w_ o 0 o.n).n=0:=Nat.sub_self _;refine⟨(congrFun h 0).trans ?_,(congrFun h 1).trans ?_,(congrFun h 2).trans ?_⟩<;>rw[e]<;>rfl
theorem NumsOk.win{l:Row}(h:NumsOk l){e m:Nat}(hm:e+m<=l.n):NumsOk (w_ l e m):=⟨by rw[wn_];have:=h.1;omega,fun j hj=>by
 rw[wn_]at hj;rw[Ea];exact h.2 _ (by omega)⟩
theorem jS(n:Int):0<=IntKind.u8.wrap n∧IntKind.u8.wrap n<=255:=by
 rw[IntKind.wrap_u8];omega
theorem Acf{s:ByteArray}{p:Px}{j:Nat}(hs:s.size<=100000)(hp:SzP p j)(hj:j<=900000)(h:DcOk (G9 p)):DcOk (G9 (CJ s p).2):=by
 have hz:=Xi hs;have hl:=uX hz;obtain⟨hq1,hq2⟩:=vF hz;obtain⟨z1,z2,z3,z4,z5,z6⟩:=hp;unfold CJ;generalize Ae ((AV s).S 0 0)=w;unfold AY;generalize BD (Bf (AV s))=l at hl⊢;generalize Dy (Bf (AV s))=q at hq1 hq2⊢;generalize DJ (Bf (AV s))=nb;generalize Em (Bf (AV s))=qb;have bc:∀(b:Bool)(x z:Bool×Px),(b=true->DcOk (G9 x.2))->DcOk (G9 z.2)->DcOk (G9 (bif b then x else z).2):=fun b x z hx hz=>by
  cases b
  ·exact hz
  ·exact hx rfl
 have bp:∀(b:Bool)(x z:Px),DcOk (G9 x)->DcOk (G9 z)->DcOk (G9 (bif b then x else z)):=fun b x z hx hz=>by cases b<;>assumption
 have hl0:∀j,j<l.n->iR (l.I j 0)=true:=hl.2;refine bc _ _ _ (fun _=>bc _ _ _ (fun _=>?_) h) (bc _ _ _ (fun _=>bc _ _ _ (fun _=>?_) h) (bc _ _ _ (fun _=>h) (bc _ _ _ (fun _=>bc _ _ _ (fun hb=>?_) h) (bc _ _ _ (fun _=>bp _ _ _ ?_ ?_) (bc _ _ _ (fun _=>?_) (bc _ _ _ (fun _=>bc _ _ _ (fun hb=>?_) h) (bc _ _ _ (fun _=>?_) (bc _ _ _ (fun _=>bc _ _ _ (fun hb=>?_) h) (bc _ _ _ (fun _=>?_) (bc _ _ _ (fun _=>bc _ _ _ (fun hb=>?_) h) (bc _ _ _ (fun _=>bc _ _ _ (fun hb=>bp _ _ _ ?_ ?_) h) h)))))))))))
 ·refine{h with pi:=?_};refine(RowsOk.app (o:=p.pi) h.pi (by omega) ?_:RowsOk 4 (DU p.pi (Ad (Gi q))));obtain⟨a1,a2⟩:=XV q;have a3:(Ad (Gi q)).n=q.n/2:=a1;refine⟨by omega,fun j hj c hc=>?_⟩;rw[a3]at hj;obtain⟨b0,b1,b2,b3⟩:=a2 j hj;show iR ((Gi q).I j c)=true;rcases lt4 hc with rfl|rfl|rfl|rfl
  ·rw[b0];exact(hq2 _ (by omega)).1
  ·rw[b1];exact(hq2 _ (by omega)).2
  ·rw[b2];exact(hq2 _ (by omega)).1
  ·rw[b3];exact(hq2 _ (by omega)).2
 ·refine{h with wo:=?_};refine(RowsOk.app (o:=p.wo) h.wo (by omega) ⟨hq1,fun j hj c hc=>?_⟩:RowsOk 2 (DU p.wo (Ad q)));have hj':j<q.n:=hj;show iR (q.I j c)=true;rcases lt2 hc with rfl|rfl
  ·exact(hq2 j hj').1
  ·exact(hq2 j hj').2
 ·rw[A2,A3,A3]at hb;refine{h with ca:=?_};have hn:(OB p.ca l).n=p.ca.n+1:=rfl;refine(⟨by omega,fun e he=>?_⟩:ZG (OB p.ca l));rw[hn]at he;by_cases hlt:e<p.ca.n
  ·obtain⟨a1,a2⟩:=XF (l:=l) hlt;rw[a1,a2];exact h.ca.2 e hlt
  ·obtain⟨a1,a2,a3⟩:=Xu p.ca l;rw[show e=p.ca.n by omega,a1,a2,a3];exact⟨hl0 0 (by omega),hl.win (by omega),hl.win (by omega)⟩
 ·exact{h with gv:=(RowsOk.app (o:=p.gv) h.gv (by omega) ⟨hl.1,fun j hj c hc=>by rw[lt1 hc];exact hl0 j hj⟩:RowsOk 1 (DU p.gv (Ad l)))}
 ·exact{h with fv:=(RowsOk.app (o:=p.fv) h.fv (by omega) ⟨hl.1,fun j hj c hc=>by rw[lt1 hc];exact hl0 j hj⟩:RowsOk 1 (DU p.fv (Ad l)))}
 ·exact{h with aa:=(hl:NumsOk l)}
 ·exact{h with rr:=hl0 0 (by have:=AD hb;omega)}
 ·exact{h with lr:=(hl:NumsOk l)}
 ·have hb':=AD hb;exact{h with ld:=hl0 0 hb',lp:=(hl.win (e:=1) (m:=l.n-1) (by omega):NumsOk (w_ l 1 (l.n-1)))}
 ·exact{h with ba:=(hl:NumsOk l)}
 ·have hb':=AD hb;refine{h with pa:=?_};have hn:(PM p.pa l).n=p.pa.n+1:=rfl;refine(⟨by omega,fun e he c hc=>?_⟩:fE (PM p.pa l));rw[hn]at he;by_cases hlt:e<p.pa.n
  ·rw[Xf hlt];exact h.pa.2 e hlt c hc
  ·obtain⟨a1,a2,a3⟩:=XE p.pa l;rw[show e=p.pa.n by omega];rcases lt3 hc with rfl|rfl|rfl
   ·rw[a1];exact hl0 0 (by omega)
   ·rw[a2];exact hl0 1 (by omega)
   ·rw[a3];exact hl0 2 (by omega)
 ·exact{h with pc:=jS _}
 ·exact{h with cl:=jS _}
inductive RdL:Px->List (List UInt8)->Px->Prop
 |nil{p:Px}:RdL p [] p
 |cons{p q r:Px}{l:List UInt8}{ls:List (List UInt8)}(h10:∀c∈l,c≠10)(h:CJ (txt l) p=(true,q))(t:RdL q ls r):RdL p (l::ls) r
theorem RdL.app{p q r:Px}{a b:List (List UInt8)}(h:RdL p a q)(h2:RdL q b r):RdL p (a++b) r:=by
 induction h with
 |nil=>exact h2
 |cons h10 h _ ih=>exact .cons h10 h (ih h2)
theorem RdL.one{p q:Px}{l:List UInt8}(h10:∀c∈l,c≠10)(h:CJ (txt l) p=(true,q)):RdL p [l] q:=.cons h10 h .nil
def N8(ls:List (List UInt8)):List UInt8:=(ls.map (· ++[10])).flatten
theorem Dz(a b:List (List UInt8)):N8 (a++b)=N8 a++N8 b:=by unfold N8;rw[List.map_append,List.flatten_append]
theorem Eu(l:List UInt8):N8 [l]=l++[10]:=by simp[N8]
theorem RdL.run{p p':Px}{ls:List (List UInt8)}(h:RdL p ls p')(x:A_lpl):∀(rest:ByteArray),Ae rest=N8 ls->∀j,(CY (lpl.stop x) (lpl.nx x) (Ln.lnN rest) j ⟨rest,p⟩).1=false∧(CY (lpl.stop x) (lpl.nx x) (Ln.lnN rest) j ⟨rest,p⟩).2.2.p=p':=by
 induction h with
 |nil=>
  intro rest hr j;rw[Ln.lnN_nil hr];exact⟨rfl,rfl⟩
 |@cons p q r l ls h10 h _ ih=>
  intro rest hr j;have e:Ae rest=l++10::N8 ls:=by rw[hr];simp[N8]
  have e2:rest=txt (l++10::N8 ls):=by rw[<-e,Hq]
  obtain⟨-,h1,h2⟩:=Ln.sp_line (x:=l) (y:=N8 ls) h10;rw[<-e2]at h1 h2;have hne:Ae rest≠[]:=by rw[e];simp
  rw[Ln.lnN_rest hne];have hs:lpl.stop x j ⟨rest,p⟩=false:=by
   show(!(CJ (Ln.oneB rest) p).1)=false;rw[h1,h];rfl
  have hn:lpl.nx x j ⟨rest,p⟩=⟨Ln.restB rest,q⟩:=by
   show(⟨Ln.restB rest,(CJ (Ln.oneB rest) p).2⟩:Pa)=_;rw[h1,h]
  rw[VU hs,hn];exact ih (Ln.restB rest) (by rw[h2,Dt]) (j+1)
def Uc(k:Int):Px:=⟨k,.nil,.nil,0,.nil,.nil,.nil,.nil,0,.nil,.nil,0,0,0,.nil,.nil,0⟩
theorem Akm:LY (Ej 0)=1:=by kernel_rfl
theorem Ajz:LY (Ej 1)=2:=by kernel_rfl
theorem Ajx:LY (Ej 2)=3:=by kernel_rfl
theorem Ak7:LY (Ej 3)=4:=by kernel_rfl
theorem Ht{hd:ByteArray}{k:Int}(hk:LY hd=k)(h10:∀c∈Ae hd,c≠10){ls:List (List UInt8)}{p':Px}(h:RdL (Uc k) ls p'):Yb (txt (Ae hd++[10]++N8 ls))=false∧JM (txt (Ae hd++[10]++N8 ls))=p':=by
 have e:Ae hd++[10]++N8 ls=Ae hd++10::N8 ls:=by simp
 rw[e];obtain⟨-,h1,h2⟩:=Ln.sp_line (x:=Ae hd) (y:=N8 ls) h10;unfold Yb JM;rw[h1,h2,Hq,hk];exact h.run (oZ (txt (Ae hd++10::N8 ls)) (txt (N8 ls)) k) (txt (N8 ls)) (Dt _) 0
theorem FN{s w:ByteArray}{p:Px}(hw:(AV s).S 0 0=w):CJ s p=AY (Ae w) (AV s) p:=by unfold CJ;rw[hw]
theorem aS(x:Nat->Int):∀n,∀c∈BR x n,c≠10
 |0,c,hc=>by cases hc
 |n+1,c,hc=>by
  rcases List.mem_append.1 hc with h|h
  ·exact aS x n c h
  ·rcases A8.1 h with rfl|h
   ·decide
   ·exact(Ln.itoa_spec _ c h).2
theorem gY(x:Nat->Int×Int):∀n,∀c∈Ih x n,c≠10
 |0,c,hc=>by cases hc
 |n+1,c,hc=>by
  rcases List.mem_append.1 hc with h|h
  ·exact gY x n c h
  ·rcases A8.1 h with rfl|h
   ·decide
   ·exact(dJ _ c h).2
theorem Gy{word:ByteArray}(hw:∀c∈Ae word,c≠10)(x:Nat->Int)(n:Nat):∀c∈Ae word++BR x n,c≠10:=fun c hc=>by
 rcases List.mem_append.1 hc with h|h
 ·exact hw c h
 ·exact aS x n c h
theorem dY{word:ByteArray}(hw:∀c∈Ae word,c≠10)(x:Nat->Int×Int)(n:Nat):∀c∈Ae word++Ih x n,c≠10:=fun c hc=>by
 rcases List.mem_append.1 hc with h|h
 ·exact hw c h
 ·exact gY x n c h
def Is(l:Row)(n:Nat)(x:Nat->Int):Prop:=l.n=n∧∀j,j<n->l.I j 0=x j
theorem Hy(word:ByteArray)(hw:∀c∈Ae word,c≠32){x:Nat->Int}{n:Nat}(hx:∀j,j<n->iR (x j)=true)(hn:n<=1000000):∃r,AV (txt (Ae word++BR x n))=r∧r.S 0 0=word∧DJ (Bf r)=true∧Is (BD (Bf r)) n x:=by
 obtain⟨h1,h2,h3,h4,h5,h6⟩:=iL hw hx hn;exact⟨_,rfl,h2,h4,h5,h6⟩
theorem bG(word:ByteArray)(hw:∀c∈Ae word,c≠32){x:Nat->Int×Int}{n:Nat}(hx:∀j,j<n->Rt.goodR (x j).1 (x j).2)(hq:∀j,iQ (x j)=true)(hn:n<=1000000):∃r,AV (txt (Ae word++Ih x n))=r∧r.S 0 0=word∧Em (Bf r)=true∧(Dy (Bf r)).n=n∧∀j,j<n->(Dy (Bf r)).I j 0=(x j).1∧(Dy (Bf r)).I j 1=(x j).2:=by
 obtain⟨h1,h2,h3,h4,h5,h6⟩:=Zz hw hx hq hn;exact⟨_,rfl,h2,h4,h5,h6⟩
section
variable{p:Px}{x:Nat->Int}{n:Nat}
theorem Q9(hx:∀j,j<n->iR (x j)=true)(hn:n<=1000000):∃l,Is l n x∧CJ (txt (Ae sValues++BR x n)) p=(true,bif p.k==2 then{p with gv:=DU p.gv (Ad l)}else{p with fv:=DU p.fv (Ad l)}):=by
 obtain⟨r,h1,h2,h3,h4⟩:=Hy sValues (by decide) hx hn;refine⟨_,h4,?_⟩;rw[FN (w:=sValues) (by rw[h1];exact h2),h1];unfold AY;rw[h3];rfl
theorem uZ(hx:∀j,j<n->iR (x j)=true)(hn:n<=1000000):∃l,Is l n x∧CJ (txt (Ae sGive++BR x n)) p=(true,{p with aa:=l}):=by
 obtain⟨r,h1,h2,h3,h4⟩:=Hy sGive (by decide) hx hn;refine⟨_,h4,?_⟩;rw[FN (w:=sGive) (by rw[h1];exact h2),h1];unfold AY;rw[h3];rfl
theorem gJ(hx:∀j,j<n->iR (x j)=true)(hn:n<=1000000):∃l,Is l n x∧CJ (txt (Ae sRooms++BR x n)) p=(true,{p with lr:=l}):=by
 obtain⟨r,h1,h2,h3,h4⟩:=Hy sRooms (by decide) hx hn;refine⟨_,h4,?_⟩;rw[FN (w:=sRooms) (by rw[h1];exact h2),h1];unfold AY;rw[h3];rfl
theorem TA(hx:∀j,j<n->iR (x j)=true)(hn:n<=1000000):∃l,Is l n x∧CJ (txt (Ae sBalances++BR x n)) p=(true,{p with ba:=l}):=by
 obtain⟨r,h1,h2,h3,h4⟩:=Hy sBalances (by decide) hx hn;refine⟨_,h4,?_⟩;rw[FN (w:=sBalances) (by rw[h1];exact h2),h1];unfold AY;rw[h3];rfl
theorem wJ{v:Int}(hv:iR v=true):CJ (txt (Ae sRent++BR (fun _=>v) 1)) p=(true,{p with rr:=v}):=by
 obtain⟨r,h1,h2,h3,h4,h5⟩:=Hy sRent (by decide) (x:=fun _=>v) (n:=1) (fun _ _=>hv) (by decide);rw[FN (w:=sRent) (by rw[h1];exact h2),h1];have e:=h5 0 (by decide);unfold AY;rw[h3,h4,e];rfl
theorem Y7(hx:∀j,j<n->iR (x j)=true)(hn:n<=1000000)(h0:0<n):∃l,Is l n x∧CJ (txt (Ae sPrices++BR x n)) p=(true,{p with ld:=x 0,lp:=l,lpo:=1,lpn:=n-1}):=by
 obtain⟨r,h1,h2,h3,h4⟩:=Hy sPrices (by decide) hx hn;refine⟨_,h4,?_⟩;rw[FN (w:=sPrices) (by rw[h1];exact h2),h1];unfold AY;rw[h3,h4.2 0 h0,h4.1,A4 h0];rfl
theorem Ada(hx:∀j,j<3->iR (x j)=true):∃l,Is l 3 x∧CJ (txt (Ae sPay++BR x 3)) p=(true,{p with pa:=PM p.pa l}):=by
 obtain⟨r,h1,h2,h3,h4⟩:=Hy sPay (by decide) hx (by decide);refine⟨_,h4,?_⟩;rw[FN (w:=sPay) (by rw[h1];exact h2),h1];unfold AY;rw[h3,h4.1];rfl
theorem Ja{v:Int}(h0:0<=v)(h1:v<=31):CJ (txt (Ae sClaims++BR (fun _=>v) 1)) p=(true,bif p.k==1 then{p with pc:=v}else{p with cl:=v}):=by
 obtain⟨r,g1,g2,g3,g4,g5⟩:=Hy sClaims (by decide) (x:=fun _=>v) (n:=1) (fun _ _=>A4 ⟨by omega,by omega⟩) (by decide);rw[FN (w:=sClaims) (by rw[g1];exact g2),g1];have e:(BD (Bf r)).I 0 0=v:=g5 0 (by decide);have ew:IntKind.u8.wrap v=v:=by rw[IntKind.wrap_u8];omega
 unfold AY;rw[g3,g4,e,ew,A4 (⟨rfl,h0,h1⟩:1=1∧0<=v∧v<=31)];rfl
theorem qG(hx:∀j,j<n->iR (x j)=true)(hn:n<=1000000)(h2:2<=n)(he:n%2=0):∃l,Is l n x∧CJ (txt (Ae sCake++BR x n)) p=(true,{p with ca:=OB p.ca l}):=by
 obtain⟨r,g1,g2,g3,g4⟩:=Hy sCake (by decide) hx hn;refine⟨_,g4,?_⟩;rw[FN (w:=sCake) (by rw[g1];exact g2),g1];unfold AY;rw[g3,g4.1,A4 h2,A4 he];rfl
theorem fA{y:Nat->Int×Int}{m:Nat}(hy:∀j,j<2*m->Rt.goodR (y j).1 (y j).2)(hq:∀j,iQ (y j)=true)(hm:2*m<=1000000):∃q,q.n=2*m∧(∀j,j<2*m->q.I j 0=(y j).1∧q.I j 1=(y j).2)∧CJ (txt (Ae sPiece++Ih y (2*m))) p=(true,{p with pi:=DU p.pi (Ad (Gi q))}):=by
 obtain⟨r,g1,g2,g3,g4,g5⟩:=bG sPiece (by decide) hy hq hm;refine⟨_,g4,g5,?_⟩;rw[FN (w:=sPiece) (by rw[g1];exact g2),g1];unfold AY;have e:evB (2*m)=true:=by
  unfold evB;rw[show 2*m-2*(2*m/2)=0 by omega];rfl
 rw[g3,g4,e];rfl
theorem nD{y:Nat->Int×Int}(hy:∀j,j<n->Rt.goodR (y j).1 (y j).2)(hq:∀j,iQ (y j)=true)(hn:n<=1000000):∃q,q.n=n∧(∀j,j<n->q.I j 0=(y j).1∧q.I j 1=(y j).2)∧CJ (txt (Ae sWorth++Ih y n)) p=(true,{p with wo:=DU p.wo (Ad q)}):=by
 obtain⟨r,g1,g2,g3,g4,g5⟩:=bG sWorth (by decide) hy hq hn;refine⟨_,g4,g5,?_⟩;rw[FN (w:=sWorth) (by rw[g1];exact g2),g1];unfold AY;rw[g3];rfl
end
theorem Ph(word:ByteArray)(x:Nat->Nat->Int)(n:Nat->Nat):∀k,F6 word x n k=N8 ((List.range k).map fun e=>Ae word++BR (x e) (n e))
 |0=>rfl
 |k+1=>by rw[List.range_succ,List.map_append,Dz,<-Ph word x n k,List.map_singleton,Eu];rfl
theorem VA(word:ByteArray)(x:Nat->Nat->Int×Int)(n:Nat->Nat):∀k,Lt word x n k=N8 ((List.range k).map fun e=>Ae word++Ih (x e) (n e))
 |0=>rfl
 |k+1=>by rw[List.range_succ,List.map_append,Dz,<-VA word x n k,List.map_singleton,Eu];rfl
theorem RdL.snoc{p q r:Px}{f:Nat->List UInt8}{n:Nat}(h:RdL p ((List.range n).map f) q)(h10:∀c∈f n,c≠10)(hr:CJ (txt (f n)) q=(true,r)):RdL p ((List.range (n+1)).map f) r:=by
 rw[List.range_succ,List.map_append];exact h.app (.one h10 hr)
theorem Ab7{p:Px}(hk:p.k=2)(h0:p.gv.n=0){X:Nat->Nat->Int}{rn:Nat->Nat}:∀n,(∀e,e<n->rn e<=1000000∧∀j,j<rn e->iR (X e j)=true)->∃g:Row,g.n=n∧(∀e,e<n->Is (g.R e 0) (rn e) (X e))∧RdL p ((List.range n).map fun e=>Ae sValues++BR (X e) (rn e)) {p with gv:=g}
 |0,_=>⟨p.gv,h0,fun e he=>absurd he (Nat.not_lt_zero _),.nil⟩
 |n+1,h=>by
  obtain⟨g,g1,g2,g3⟩:=Ab7 hk h0 n fun e he=>h e (by omega);obtain⟨l,l1,l2⟩:=Q9 (p:={p with gv:=g}) (h n (by omega)).2 (h n (by omega)).1;refine⟨DU g (Ad l),congrArg (· +1) g1,fun e he=>?_,g3.snoc (Gy (by decide) _ _) (by rw[l2];show(true,bif p.k==2 then _ else _)=_;rw[hk];rfl)⟩;by_cases hlt:e<n
  ·rw[Je (by omega)];exact g2 e hlt
  ·rw[IP (by omega),show e=n by omega];exact l1
theorem yF{p:Px}(hk:(p.k==2)=false)(h0:p.fv.n=0){X:Nat->Nat->Int}{rn:Nat->Nat}:∀n,(∀e,e<n->rn e<=1000000∧∀j,j<rn e->iR (X e j)=true)->∃g:Row,g.n=n∧(∀e,e<n->Is (g.R e 0) (rn e) (X e))∧RdL p ((List.range n).map fun e=>Ae sValues++BR (X e) (rn e)) {p with fv:=g}
 |0,_=>⟨p.fv,h0,fun e he=>absurd he (Nat.not_lt_zero _),.nil⟩
 |n+1,h=>by
  obtain⟨g,g1,g2,g3⟩:=yF hk h0 n fun e he=>h e (by omega);obtain⟨l,l1,l2⟩:=Q9 (p:={p with fv:=g}) (h n (by omega)).2 (h n (by omega)).1;refine⟨DU g (Ad l),congrArg (· +1) g1,fun e he=>?_,g3.snoc (Gy (by decide) _ _) (by rw[l2];show(true,bif p.k==2 then _ else _)=_;rw[hk];rfl)⟩;by_cases hlt:e<n
  ·rw[Je (by omega)];exact g2 e hlt
  ·rw[IP (by omega),show e=n by omega];exact l1
theorem Aau{p:Px}(h0:p.pa.n=0){P:Nat->Nat->Int}:∀n,(∀e,e<n->∀j,j<3->iR (P e j)=true)->∃g:Row,g.n=n∧(∀e,e<n->∀c,c<3->g.I e c=P e c)∧RdL p ((List.range n).map fun e=>Ae sPay++BR (P e) 3) {p with pa:=g}
 |0,_=>⟨p.pa,h0,fun e he=>absurd he (Nat.not_lt_zero _),.nil⟩
 |n+1,h=>by
  obtain⟨g,g1,g2,g3⟩:=Aau h0 n fun e he=>h e (by omega);obtain⟨l,l1,l2⟩:=Ada (p:={p with pa:=g}) (h n (by omega));refine⟨PM g l,congrArg (· +1) g1,fun e he c hc=>?_,g3.snoc (Gy (by decide) _ _) l2⟩;by_cases hlt:e<n
  ·rw[Xf (by omega)];exact g2 e hlt c hc
  ·obtain⟨a1,a2,a3⟩:=XE g l;rw[show e=n by omega,<-g1];rcases lt3 hc with rfl|rfl|rfl
   ·rw[a1,l1.2 0 (by decide),g1]
   ·rw[a2,l1.2 1 (by decide),g1]
   ·rw[a3,l1.2 2 (by decide),g1]
theorem Aj7(cl:Int){un:Nat}(U Dv:Nat->Int){j:Nat}(h:j<un):JH cl un U Dv (1+j)=U j:=by
 unfold JH;rw[AL (by omega),AM (by omega),show 1+j-1=j by omega]
theorem Aip(cl:Int)(un:Nat)(U Dv:Nat->Int)(j:Nat):JH cl un U Dv (un+1+j)=Dv j:=by
 unfold JH;rw[AL (by omega),AL (by omega),show un+1+j-1-un=j by omega]
theorem wZ{p:Px}(h0:p.ca.n=0){ln:Nat->Int}{un dn:Nat->Nat}{U Dv:Nat->Nat->Int}:∀n,(∀e,e<n->un e<=1000∧dn e+1=un e∧iR (ln e)=true∧(∀j,iR (U e j)=true)∧∀j,iR (Dv e j)=true)->
  ∃g:Row,g.n=n∧(∀e,e<n->g.I e 0=ln e∧Is (g.R e 1) (un e) (U e)∧Is (g.R e 2) (dn e) (Dv e))∧RdL p ((List.range n).map fun e=>Ae sCake++BR (JH (ln e) (un e) (U e) (Dv e)) (1+un e+dn e)) {p with ca:=g}
 |0,_=>⟨p.ca,h0,fun e he=>absurd he (Nat.not_lt_zero _),.nil⟩
 |n+1,h=>by
  obtain⟨g,g1,g2,g3⟩:=wZ h0 n fun e he=>h e (by omega);obtain⟨k1,k2,k3,k4,k5⟩:=h n (by omega);obtain⟨l,l1,l2⟩:=qG (p:={p with ca:=g}) (x:=JH (ln n) (un n) (U n) (Dv n)) (n:=1+un n+dn n) (fun j _=>SH k3 k4 k5 j) (by omega) (by omega) (by omega);refine⟨OB g l,congrArg (· +1) g1,fun e he=>?_,g3.snoc (Gy (by decide) _ _) l2⟩;by_cases hlt:e<n
  ·obtain⟨a1,a2⟩:=XF (o:=g) (l:=l) (i:=e) (by omega);rw[a1,a2];exact g2 e hlt
  ·obtain⟨a1,a2,a3⟩:=Xu g l;obtain rfl:e=n:=by omega
   rw[<-g1,a1,a2,a3,g1];refine⟨l1.2 0 (by omega),⟨by rw[wn_,l1.1];omega,fun j hj=>?_⟩,⟨by rw[wn_,l1.1];omega,fun j hj=>?_⟩⟩
   ·rw[Ea,l1.2 _ (by omega)];exact Aj7 _ _ _ hj
   ·rw[Ea,l1.1,l1.2 _ (by omega),show 0+((1+un e+dn e)/2+1)+j=un e+1+j by omega];exact Aip _ _ _ _ _
theorem yB{p:Px}(h0:p.pi.n=0){sn:Nat->Nat}{S:Nat->Nat->Nat->Int}:∀n,(∀e,e<n->sn e<=1000∧(∀i,i<sn e->Rt.goodR (S e i 0) (S e i 1)∧Rt.goodR (S e i 2) (S e i 3))∧∀i c,Rt.iR (S e i c)=true)->
  ∃g:Row,g.n=n∧(∀e,e<n->(g.R e 0).n=sn e∧∀i,i<sn e->∀c,c<4->(g.R e 0).I i c=S e i c)∧RdL p ((List.range n).map fun e=>Ae sPiece++Ih (I4 (S e)) (2*sn e)) {p with pi:=g}
 |0,_=>⟨p.pi,h0,fun e he=>absurd he (Nat.not_lt_zero _),.nil⟩
 |n+1,h=>by
  obtain⟨g,g1,g2,g3⟩:=yB h0 n fun e he=>h e (by omega);obtain⟨k1,k2,k3⟩:=h n (by omega);have hg:∀j,j<2*sn n->Rt.goodR (I4 (S n) j).1 (I4 (S n) j).2:=fun j hj=>by
   unfold I4;split
   ·exact(k2 (j/2) (by omega)).1
   ·exact(k2 (j/2) (by omega)).2
  obtain⟨q,q1,q2,l2⟩:=fA (p:={p with pi:=g}) (y:=I4 (S n)) (m:=sn n) hg (fun j=>SS k3 j) (by omega);refine⟨DU g (Ad (Gi q)),congrArg (· +1) g1,fun e he=>?_,g3.snoc (dY (by decide) _ _) l2⟩;by_cases hlt:e<n
  ·rw[Je (by omega)];exact g2 e hlt
  ·obtain rfl:e=n:=by omega
   rw[IP (by omega)];obtain⟨a1,a2⟩:=XV q;refine⟨by show(Gi q).n=_;rw[a1,q1];omega,fun i hi c hc=>?_⟩;show(Gi q).I i c=_;obtain⟨b0,b1,b2,b3⟩:=a2 i (by omega);have e0:I4 (S e) (2*i)=(S e i 0,S e i 1):=by unfold I4;rw[AM (by omega),show 2*i/2=i by omega]
   have e1:I4 (S e) (2*i+1)=(S e i 2,S e i 3):=by unfold I4;rw[AL (by omega),show(2*i+1)/2=i by omega]
   rcases lt4 hc with rfl|rfl|rfl|rfl
   ·rw[b0,(q2 _ (by omega)).1,e0]
   ·rw[b1,(q2 _ (by omega)).2,e0]
   ·rw[b2,(q2 _ (by omega)).1,e1]
   ·rw[b3,(q2 _ (by omega)).2,e1]
theorem yD{p:Px}(h0:p.wo.n=0){vn:Nat->Nat}{W:Nat->Nat->Int×Int}:∀n,(∀e,e<n->vn e<=1000∧(∀i,i<vn e->Rt.goodR (W e i).1 (W e i).2)∧∀i,iQ (W e i)=true)->
  ∃g:Row,g.n=n∧(∀e,e<n->(g.R e 0).n=vn e∧∀i,i<vn e->(g.R e 0).I i 0=(W e i).1∧(g.R e 0).I i 1=(W e i).2)∧RdL p ((List.range n).map fun e=>Ae sWorth++Ih (W e) (vn e)) {p with wo:=g}
 |0,_=>⟨p.wo,h0,fun e he=>absurd he (Nat.not_lt_zero _),.nil⟩
 |n+1,h=>by
  obtain⟨g,g1,g2,g3⟩:=yD h0 n fun e he=>h e (by omega);obtain⟨k1,k2,k3⟩:=h n (by omega);obtain⟨q,q1,q2,l2⟩:=nD (p:={p with wo:=g}) k2 k3 (by omega);refine⟨DU g (Ad q),congrArg (· +1) g1,fun e he=>?_,g3.snoc (dY (by decide) _ _) l2⟩;by_cases hlt:e<n
  ·rw[Je (by omega)];exact g2 e hlt
  ·obtain rfl:e=n:=by omega
   rw[IP (by omega)];exact⟨q1,q2⟩
theorem AX{ks:List CK}{r r':Row}(h:r.n=0)(h':r'.n=0):RdA ks r r':=.mk (h.trans h'.symm) fun e j k he _=>by omega
theorem NK{k k':CK}{j:Nat}(h:[k][j]? =some k'):j=0∧k'=k:=by
 cases j with
 |zero=>simp at h;exact⟨rfl,h.symm⟩
 |succ j=>simp at h
theorem J6{l r:Row}{n:Nat}{x:Nat->Int}(h:Is l n x)(hn:r.n=n)(hx:∀j,j<n->x j=r.I j 0):RdA SY l r:=.mk (h.1.trans hn.symm) fun e j k he hk=>by
 obtain⟨rfl,rfl⟩:=NK hk;rw[h.1]at he;exact .int (by rw[h.2 e he,hx e he])
theorem X0{g r:Row}{rn:Nat->Nat}{X:Nat->Nat->Int}(hn:g.n=r.n)(h:∀e,e<r.n->Is (g.R e 0) (rn e) (X e))(hr:∀e,e<r.n->(r.R e 0).n=rn e∧∀j,j<rn e->X e j=(r.R e 0).I j 0):RdA kL1 g r:=.mk hn fun e j k he hk=>by
 obtain⟨rfl,rfl⟩:=NK hk;rw[hn]at he;exact .slice (J6 (h e he) (hr e he).1 (hr e he).2)
theorem Gz{r:Row}{j:Nat}(h:j<r.n):Ii r j=r.I j 0:=AM h
theorem Sz{r:Row}{e j:Nat}(h:e<r.n)(hj:j<(r.R e 0).n):Wi r e j=(r.R e 0).I j 0:=AM ⟨h,hj⟩
theorem lX{r:Row}{e i:Nat}(h:e<r.n)(hi:i<3):uM r e i=r.I e i:=AM ⟨h,hi⟩
theorem yI{r:Row}{c e j:Nat}(h:e<r.n)(hj:j<(r.R e c).n):xO r c e j=(r.R e c).I j 0:=AM ⟨h,hj⟩
theorem xB{r:Row}{e j:Nat}(h:e<r.n)(hj:j<(r.R e 0).n):qO r e j=((r.R e 0).I j 0,(r.R e 0).I j 1):=AM ⟨h,hj⟩
theorem UC{r:Row}{e i c:Nat}(h:e<r.n)(hi:i<(r.R e 0).n)(hc:c<4):sO r e i c=(r.R e 0).I i c:=AM ⟨h,hi,hc⟩
theorem Adw{x:Dc}(h:fC x=false):x.ca.n=0∧x.pi.n=0∧x.wo.n=0∧x.pc=0:=by
 unfold fC at h;simp only[AI,decide_eq_false_iff_not]at h;obtain⟨h1,h2,h3,h4⟩:=h;exact⟨by omega,by omega,by omega,by simpa using h4⟩
theorem Af3{x:Dc}(h:fG x=false):x.gv.n=0∧x.aa.n=0:=by
 unfold fG at h;simp only[AI,decide_eq_false_iff_not]at h;exact⟨by omega,by omega⟩
theorem Aew{x:Dc}(h:fR x=false):x.fv.n=0∧x.rr=0∧x.lr.n=0∧x.lp.n=0∧x.ld=0:=by
 unfold fR at h;simp only[AI,decide_eq_false_iff_not]at h;obtain⟨h1,h2,h3,h4,h5⟩:=h;exact⟨by omega,by simpa using h2,by omega,by omega,by simpa using h5⟩
theorem Afa{x:Dc}(h:fS x=false):x.ba.n=0∧x.pa.n=0:=by
 unfold fS at h;simp only[AI,decide_eq_false_iff_not]at h;exact⟨by omega,by omega⟩
theorem Ak2{x:Dc}(hk:x.k=1)(h:Qd x.k x=false):fG x=false∧fR x=false∧fS x=false:=by
 rw[hk,RJ]at h;revert h;generalize fC x=a;generalize fG x=b;generalize fR x=c;generalize fS x=d;revert a b c d
 decide
theorem Akb{x:Dc}(hk:x.k=2)(h:Qd x.k x=false):fC x=false∧fR x=false∧fS x=false:=by
 rw[hk,RJ]at h;revert h;generalize fC x=a;generalize fG x=b;generalize fR x=c;generalize fS x=d;revert a b c d
 decide
theorem Ajv{x:Dc}(hk:x.k=3)(h:Qd x.k x=false):fC x=false∧fG x=false∧fS x=false:=by
 rw[hk,RJ]at h;revert h;generalize fC x=a;generalize fG x=b;generalize fR x=c;generalize fS x=d;revert a b c d
 decide
theorem Akh{x:Dc}(hk:x.k=4)(h:Qd x.k x=false):fC x=false∧fG x=false∧fR x=false:=by
 rw[hk,RJ]at h;revert h;generalize fC x=a;generalize fG x=b;generalize fR x=c;generalize fS x=d;revert a b c d
 decide
theorem Ak9:Ir sCake=Ae (Ej 0)++[10]:=by unfold Ir Ej;rw[Ee];rfl
theorem Akg:Ir sGoods=Ae (Ej 1)++[10]:=by unfold Ir Ej;rw[Ee];rfl
theorem Akl:Ir sRent=Ae (Ej 2)++[10]:=by unfold Ir Ej;rw[Ee];rfl
theorem Ajw:Ir sSettle=Ae (Ej 3)++[10]:=by unfold Ir Ej;rw[Ee];rfl
theorem d10(s:ByteArray)(h:∀c∈Ae s,c≠10):∀c∈Ae (sDocument++s),c≠10:=fun c hc=>by
 rw[Ee]at hc;rcases List.mem_append.1 hc with h1|h1
 ·exact(by decide:∀c∈Ae sDocument,c≠10) c h1
 ·exact h c h1
theorem Xn(n:Int):∀c∈Ae sClaims++BR (fun _=>n) 1,c≠10:=Gy (by decide) _ _
theorem Ac9{x:Dc}(hx:DcOk x)(hk:x.k=2)(ho:Qd x.k x=false)(hc:x.cl<=31):Yb (txt (gdT x))=false∧AlDc (G9 (JM (txt (gdT x)))) x:=by
 obtain⟨o1,o2,o3⟩:=Akb hk ho;obtain⟨e1,e2,e3,e4⟩:=Adw o1;obtain⟨e5,e6,e7,e8,e9⟩:=Aew o2;obtain⟨e10,e11⟩:=Afa o3;obtain⟨g,g1,g2,g3⟩:=Ab7 (p:=Uc 2) rfl rfl (X:=Wi x.gv) (rn:=fun e=>(x.gv.R e 0).n) x.gv.n fun e he=>⟨(hx.gv.2 e he).1,fun j hj=>by rw[Sz he hj];exact(hx.gv.2 e he).2 j hj 0 (by decide)⟩;obtain⟨l,l1,l2⟩:=uZ (p:={Uc 2 with gv:=g}) (x:=Ii x.aa) (n:=x.aa.n) (fun j hj=>by rw[Gz hj];exact hx.aa.2 j hj) hx.aa.1;have c2:=Ja (p:={Uc 2 with gv:=g,aa:=l}) (v:=x.cl+x.pc) (by have:=hx.cl.1;omega) (by omega);have hr:=(g3.app (.one (Gy (by decide) _ _) l2)).app (.one (Xn _) c2);obtain⟨b1,b2⟩:=Ht Ajz (d10 sGoods (by decide)) hr;have et:gdT x=Ae (Ej 1)++[10]++N8 (((List.range x.gv.n).map (fun e=>Ae sValues++BR (Wi x.gv e) (x.gv.R e 0).n)++[Ae sGive++BR (Ii x.aa) x.aa.n])++[Ae sClaims++BR (fun _=>x.cl+x.pc) 1]):=by
  rw[Dz,Dz,Eu,Eu,<-Ph,<-Akg];unfold gdT goT Zn;simp only[List.append_assoc]
 rw[et];refine⟨b1,?_⟩;rw[b2];exact{
  k:=hk.symm,ca:=AX rfl e1,pi:=AX rfl e2,pc:=e4.symm,wo:=AX rfl e3
  gv:=X0 (g:=Ad g) (rn:=fun e=>(x.gv.R e 0).n) g1 g2 fun e he=>⟨rfl,fun j hj=>Sz he hj⟩
  aa:=J6 (l:=Ad l) l1 rfl fun j hj=>Gz hj
  fv:=AX rfl e5,rr:=e6.symm,lr:=AX rfl e7,lp:=AX rfl e8,ld:=e9.symm,ba:=AX rfl e10,pa:=AX rfl e11
  cl:=by show x.cl+x.pc=x.cl;omega}
theorem Ah3{x:Dc}(hx:DcOk x)(hk:x.k=4)(ho:Qd x.k x=false)(hc:x.cl<=31):Yb (txt (stT x))=false∧AlDc (G9 (JM (txt (stT x)))) x:=by
 obtain⟨o1,o2,o3⟩:=Akh hk ho;obtain⟨e1,e2,e3,e4⟩:=Adw o1;obtain⟨e5,e6,e7,e8,e9⟩:=Aew o3;obtain⟨e10,e11⟩:=Af3 o2;obtain⟨l,l1,l2⟩:=TA (p:=Uc 4) (x:=Ii x.ba) (n:=x.ba.n) (fun j hj=>by rw[Gz hj];exact hx.ba.2 j hj) hx.ba.1;obtain⟨g,g1,g2,g3⟩:=Aau (p:={Uc 4 with ba:=l}) rfl (P:=uM x.pa) x.pa.n fun e he j hj=>by rw[lX he hj];exact hx.pa.2 e he j hj
 have c2:=Ja (p:={Uc 4 with ba:=l,pa:=g}) (v:=x.cl+x.pc) (by have:=hx.cl.1;omega) (by omega);have hr:=((RdL.one (Gy (by decide) _ _) l2).app g3).app (.one (Xn _) c2);obtain⟨b1,b2⟩:=Ht Ak7 (d10 sSettle (by decide)) hr;have et:stT x=Ae (Ej 3)++[10]++N8 (([Ae sBalances++BR (Ii x.ba) x.ba.n]++(List.range x.pa.n).map (fun e=>Ae sPay++BR (uM x.pa e) 3))++[Ae sClaims++BR (fun _=>x.cl+x.pc) 1]):=by
  rw[Dz,Dz,Eu,Eu,<-Ph sPay (uM x.pa) (fun _=>3),<-Ajw];unfold stT nY Zn;simp only[List.append_assoc]
 rw[et];refine⟨b1,?_⟩;rw[b2];exact{
  k:=hk.symm,ca:=AX rfl e1,pi:=AX rfl e2,pc:=e4.symm,wo:=AX rfl e3
  gv:=AX rfl e10,aa:=AX rfl e11
  fv:=AX rfl e5,rr:=e6.symm,lr:=AX rfl e7,lp:=AX rfl e8,ld:=e9.symm
  ba:=J6 (l:=Ad l) l1 rfl fun j hj=>Gz hj
  pa:=.mk g1 fun e j k he hj=>by
   have he':e<x.pa.n:=by rw[<-g1];exact he
   have hj3:j<3:=(A0.1 hj).1;have:k=.int .i64:=by rcases lt3 hj3 with rfl|rfl|rfl<;>(simp at hj;exact hj.symm)
   subst this;exact .int (by show g.I e j=_;rw[g2 e he' j hj3,lX he' hj3])
  cl:=by show x.cl+x.pc=x.cl;omega}
theorem Af9{x:Dc}(hx:DcOk x)(hk:x.k=3)(ho:Qd x.k x=false)(hc:x.cl<=31)(hq:x.lp.n<=1000):Yb (txt (rnT x))=false∧AlDc (G9 (JM (txt (rnT x)))) x:=by
 obtain⟨o1,o2,o3⟩:=Ajv hk ho;obtain⟨e1,e2,e3,e4⟩:=Adw o1;obtain⟨e5,e6⟩:=Af3 o2;obtain⟨e10,e11⟩:=Afa o3;have r0:=wJ (p:=Uc 3) hx.rr;obtain⟨g,g1,g2,g3⟩:=yF (p:={Uc 3 with rr:=x.rr}) rfl rfl (X:=Wi x.fv) (rn:=fun e=>(x.fv.R e 0).n) x.fv.n fun e he=>⟨(hx.fv.2 e he).1,fun j hj=>by rw[Sz he hj];exact(hx.fv.2 e he).2 j hj 0 (by decide)⟩;obtain⟨l,l1,l2⟩:=gJ (p:={Uc 3 with rr:=x.rr,fv:=g}) (x:=Ii x.lr) (n:=x.lr.n) (fun j hj=>by rw[Gz hj];exact hx.lr.2 j hj) hx.lr.1;obtain⟨m,m1,m2⟩:=Y7 (p:={Uc 3 with rr:=x.rr,fv:=g,lr:=l}) (x:=Zq x.ld (Ii x.lp)) (n:=1+x.lp.n) (fun j hj=>by
  unfold Zq;split
  ·exact hx.ld
  ·rw[Gz (by omega)];exact hx.lp.2 _ (by omega)) (by omega) (by omega)
 have c2:=Ja (p:={Uc 3 with rr:=x.rr,fv:=g,lr:=l,ld:=x.ld,lp:=m,lpo:=1,lpn:=1+x.lp.n-1}) (v:=x.cl+x.pc) (by have:=hx.cl.1;omega) (by omega);have hr:=((((RdL.one (Gy (by decide) _ _) r0).app g3).app (.one (Gy (by decide) _ _) l2)).app (.one (Gy (by decide) _ _) m2)).app (.one (Xn _) c2);obtain⟨b1,b2⟩:=Ht Ajx (d10 sRent (by decide)) hr;have et:rnT x=Ae (Ej 2)++[10]++N8 (((([Ae sRent++BR (fun _=>x.rr) 1]++(List.range x.fv.n).map (fun e=>Ae sValues++BR (Wi x.fv e) (x.fv.R e 0).n))++[Ae sRooms++BR (Ii x.lr) x.lr.n])++[Ae sPrices++BR (Zq x.ld (Ii x.lp)) (1+x.lp.n)])++[Ae sClaims++BR (fun _=>x.cl+x.pc) 1]):=by
  rw[Dz,Dz,Dz,Dz,Eu,Eu,Eu,Eu,<-Ph,<-Akl];unfold rnT pF Zn;simp only[List.append_assoc]
 rw[et];refine⟨b1,?_⟩;rw[b2];exact{
  k:=hk.symm,ca:=AX rfl e1,pi:=AX rfl e2,pc:=e4.symm,wo:=AX rfl e3
  gv:=AX rfl e5,aa:=AX rfl e6
  fv:=X0 (g:=Ad g) (rn:=fun e=>(x.fv.R e 0).n) g1 g2 fun e he=>⟨rfl,fun j hj=>Sz he hj⟩
  rr:=rfl
  lr:=J6 (l:=Ad l) l1 rfl fun j hj=>Gz hj
  lp:=J6 (l:=w_ m 1 (1+x.lp.n-1)) (n:=x.lp.n) (x:=Ii x.lp) ⟨by rw[wn_];omega,fun j hj=>by
   rw[Ea,m1.2 _ (by omega)];unfold Zq;rw[AL (by omega),show 1+j-1=j by omega]⟩ rfl fun j hj=>Gz hj
  ld:=rfl,ba:=AX rfl e10,pa:=AX rfl e11
  cl:=by show x.cl+x.pc=x.cl;omega}
theorem Rl{n d:Int}(h:Rt.chkE n d=0):Rt.goodR n d:=by
 unfold Rt.chkE at h;split at h
 ·assumption
 ·cases h
theorem Y2{s:Row}{j:Nat}(h:LH s j=0){i:Nat}(hi:i<(s.R j 0).n):Rt.goodR ((s.R j 0).I i 0) ((s.R j 0).I i 1)∧Rt.goodR ((s.R j 0).I i 2) ((s.R j 0).I i 3):=by
 unfold LH V7 at h;obtain⟨h1,_⟩:=Yk h;unfold Ny at h1;obtain⟨_,h1⟩:=bz (by decide) h1;obtain⟨h2,_⟩:=bz (by decide) h1;have e:(w_ (s.R j 0) 0 (s.R j 0).n).n=(s.R j 0).n:=wn_;have g:=Jq h2 (j:=i) (by omega);rw[Ea,Ea,Ea,Ea,AE,Bool.not_eq_false']at g;unfold vM at g;rw[A2]at g;have g1:Rt.chk2 ((s.R j 0).I i 0) ((s.R j 0).I i 1) ((s.R j 0).I i 2) ((s.R j 0).I i 3)=0:=by simpa using g.1
 unfold Rt.chk2 at g1;split at g1
 ·exact⟨Rl (by assumption),Rl g1⟩
 ·contradiction
theorem Ade{x:Dc}(hx:DcOk x)(hk:x.k=1)(ho:Qd x.k x=false)(h0:x.cl=0)(h1:Uw (Ad x.ca) (Ad x.pi)=0)(hc:x.pc<=31)(h3:wP (Ad x.wo) x.ca.n=true):Yb (txt (ckT x))=false∧AlDc (G9 (JM (txt (ckT x)))) x:=by
 obtain⟨o1,o2,o3⟩:=Ak2 hk ho;obtain⟨e1,e2⟩:=Af3 o1;obtain⟨e5,e6,e7,e8,e9⟩:=Aew o2;obtain⟨e10,e11⟩:=Afa o3;obtain⟨a1,a2,a3⟩:=yC h1;obtain⟨b1,b2⟩:=zL a1;obtain⟨c1,c2⟩:=Ahw h3;have hn:(Ad x.ca).n=x.ca.n:=wn_;have hp:(Ad x.pi).n=x.pi.n:=wn_;have hw:(Ad x.wo).n=x.wo.n:=wn_;rw[hn]at b1 b2;have hck:∀e,e<x.ca.n->2<=(x.ca.R e 1).n∧(x.ca.R e 1).n<=40∧(x.ca.R e 2).n+1=(x.ca.R e 1).n:=fun e he=>by
  have g:=Aas (b2 e he);have q1:(w_ ((Ad x.ca).R e 1) 0 ((Ad x.ca).R e 1).n).n=(x.ca.R e 1).n:=wn_;have q2:(w_ ((Ad x.ca).R e 2) 0 ((Ad x.ca).R e 2).n).n=(x.ca.R e 2).n:=wn_;rw[q1,q2]at g;exact g
 have hpc:∀e,e<x.pi.n->LH (Ad x.pi) e=0:=fun e he=>by
  unfold Uw at h1;obtain⟨_,h1⟩:=Yk h1;obtain⟨_,h1⟩:=bz (by decide) h1;obtain⟨g,_⟩:=VQ (fun _=>rfl) h1;have:=Jq g (j:=e) (by omega);simpa using this
 have xO_iR:∀c e j,(c=1∨c=2)->iR (xO x.ca c e j)=true:=fun c e j h=>by
  unfold xO;split
  ·rename_i hh;rcases h with rfl|rfl
   ·exact(hx.ca.2 e hh.1).2.1.2 j hh.2
   ·exact(hx.ca.2 e hh.1).2.2.2 j hh.2
  ·exact UY
 obtain⟨g,g1,g2,g3⟩:=wZ (p:=Uc 1) rfl (ln:=Ii x.ca) (un:=fun e=>(x.ca.R e 1).n) (dn:=fun e=>(x.ca.R e 2).n) (U:=xO x.ca 1) (Dv:=xO x.ca 2) x.ca.n fun e he=>⟨by have:=(hck e he).2.1;omega,(hck e he).2.2,by rw[Gz he];exact(hx.ca.2 e he).1,fun j=>xO_iR 1 e j (.inl rfl),fun j=>xO_iR 2 e j (.inr rfl)⟩;obtain⟨t,t1,t2,t3⟩:=yB (p:={Uc 1 with ca:=g}) rfl (sn:=fun e=>(x.pi.R e 0).n) (S:=sO x.pi) x.pi.n fun e he=>⟨by have:((Ad x.pi).R e 0).n=(x.pi.R e 0).n:=rfl;have:=a3 e (by omega);omega,fun i hi=>by
  rw[UC he hi (by decide),UC he hi (by decide),UC he hi (by decide),UC he hi (by decide)];exact Y2 (hpc e he) hi,fun i c=>by
  unfold sO;split
  ·rename_i hh;exact GL ((hx.pi.2 e hh.1).2 i hh.2.1 c hh.2.2)
  ·exact GL UY⟩
 obtain⟨w,w1,w2,w3⟩:=yD (p:={Uc 1 with ca:=g,pi:=t}) rfl (vn:=fun e=>(x.wo.R e 0).n) (W:=qO x.wo) x.wo.n fun e he=>⟨by have:((Ad x.wo).R e 0).n=(x.wo.R e 0).n:=rfl;have:=(c2 e (by omega)).1;omega,fun i hi=>by
  rw[xB he hi];have g:=(c2 e (by omega)).2;unfold VJ at g;have q0:(Rt.chkE ((x.wo.R e 0).I i 0) ((x.wo.R e 0).I i 1) !=0)=false:=Jq g (j:=i) hi;exact Rl (by simpa using q0),fun i=>by
  unfold qO iQ;split
  ·rename_i hh;have:=(hx.wo.2 e hh.1).2 i hh.2;rw[GL (this 0 (by decide)),GL (this 1 (by decide))];rfl
  ·rw[GL UY];rfl⟩
 have cl:=Ja (p:={Uc 1 with ca:=g,pi:=t,wo:=w}) (v:=x.cl+x.pc) (by have:=hx.pc.1;omega) (by omega);have hr:=((g3.app t3).app w3).app (.one (Xn _) cl);obtain⟨d1,d2⟩:=Ht Akm (d10 sCake (by decide)) hr;have et:ckT x=Ae (Ej 0)++[10]++N8 ((((List.range x.ca.n).map (fun e=>Ae sCake++BR (JH (Ii x.ca e) (x.ca.R e 1).n (xO x.ca 1 e) (xO x.ca 2 e)) (1+(x.ca.R e 1).n+(x.ca.R e 2).n))++(List.range x.pi.n).map (fun e=>Ae sPiece++Ih (I4 (sO x.pi e)) (2*(x.pi.R e 0).n)))++(List.range x.wo.n).map (fun e=>Ae sWorth++Ih (qO x.wo e) (x.wo.R e 0).n))++[Ae sClaims++BR (fun _=>x.cl+x.pc) 1]):=by
  rw[Dz,Dz,Dz,Eu,<-Ph sCake (fun e=>JH (Ii x.ca e) (x.ca.R e 1).n (xO x.ca 1 e) (xO x.ca 2 e)) (fun e=>1+(x.ca.R e 1).n+(x.ca.R e 2).n),<-VA sPiece (fun e=>I4 (sO x.pi e)) (fun e=>2*(x.pi.R e 0).n),<-VA sWorth (qO x.wo) (fun e=>(x.wo.R e 0).n),<-Ak9];unfold ckT oV dvT Zn;simp only[List.append_assoc]
 rw[et];refine⟨d1,?_⟩;rw[d2];exact{
  k:=hk.symm
  ca:=.mk g1 fun e j k he hj=>by
   have he':e<x.ca.n:=by rw[<-g1];exact he
   obtain⟨q1,q2,q3⟩:=g2 e he';have hj3:j<3:=(A0.1 hj).1;rcases lt3 hj3 with rfl|rfl|rfl
   ·have:k=.int .i64:=by simp at hj;exact hj.symm
    subst this;exact .int (by show g.I e 0=_;rw[q1,Gz he'])
   ·have:k=.slice SY:=by simp at hj;exact hj.symm
    subst this;exact .slice (J6 q2 rfl fun j hj=>yI he' hj)
   ·have:k=.slice SY:=by simp at hj;exact hj.symm
    subst this;exact .slice (J6 q3 rfl fun j hj=>yI he' hj)
  pi:=.mk t1 fun e j k he hj=>by
   have he':e<x.pi.n:=by rw[<-t1];exact he
   obtain⟨rfl,rfl⟩:=NK hj;obtain⟨q1,q2⟩:=t2 e he';refine .slice (.mk q1 fun i c k hi hc=>?_);have hi':i<(x.pi.R e 0).n:=by rw[<-q1];exact hi
   have hc4:c<4:=(A0.1 hc).1;have:k=.int .i64:=by rcases lt4 hc4 with rfl|rfl|rfl|rfl<;>(simp at hc;exact hc.symm)
   subst this;exact .int (by show(t.R e 0).I i c=_;rw[q2 i hi' c hc4,UC he' hi' hc4])
  pc:=by show x.cl+x.pc=x.pc;omega
  wo:=.mk w1 fun e j k he hj=>by
   have he':e<x.wo.n:=by rw[<-w1];exact he
   obtain⟨rfl,rfl⟩:=NK hj;obtain⟨q1,q2⟩:=w2 e he';refine .slice (.mk q1 fun i c k hi hc=>?_);have hi':i<(x.wo.R e 0).n:=by rw[<-q1];exact hi
   have hc2:c<2:=(A0.1 hc).1;have:k=.int .i64:=by rcases lt2 hc2 with rfl|rfl<;>(simp at hc;exact hc.symm)
   subst this;obtain⟨q3,q4⟩:=q2 i hi';rw[xB he' hi']at q3 q4;rcases lt2 hc2 with rfl|rfl
   ·exact .int q3
   ·exact .int q4
  gv:=AX rfl e1,aa:=AX rfl e2
  fv:=AX rfl e5,rr:=e6.symm,lr:=AX rfl e7,lp:=AX rfl e8,ld:=e9.symm,ba:=AX rfl e10,pa:=AX rfl e11
  cl:=h0.symm}
theorem pV{x:Dc}(hx:DcOk x)(h:ckE vB x=0):Yb (txt (Jn x))=false∧AlDc (G9 (JM (txt (Jn x)))) x:=by
 have v:=oL h;have ht:=Xv hx h;rcases v.k with e|e|e|e
 ·obtain⟨h1,h2,h3⟩:=v.k1 e;have et:Jn x=ckT x:=by unfold Jn;rw[e];rfl
  rw[et];exact Ade hx e v.ot (v.c0 e) h1 h2 h3
 ·obtain⟨h1,h2,h3⟩:=v.k2 e;have et:Jn x=gdT x:=by unfold Jn;rw[e];rfl
  rw[et];exact Ac9 hx e v.ot h3
 ·obtain⟨h1,h2,h3⟩:=v.k3 e;have et:Jn x=rnT x:=by unfold Jn;rw[e];rfl
  rw[et];refine Af9 hx e v.ot (by omega) ?_;unfold YL at ht;rw[AB (fun g:kP x=>by have:=g.1;omega),AB (fun g:oO x=>by have:=g.1;omega),AB (fun g:X7 x=>by have:=g.1;omega)]at ht;exact(AD ht).2.2.2.2.2.2.2.1
 ·obtain⟨h1,h2,h3⟩:=v.k4 e;have et:Jn x=stT x:=by unfold Jn;rw[e];rfl
  rw[et];exact Ah3 hx e v.ot (by omega)
end Go.Proofs.YtnljjjghpgdmoaaGreatDoor

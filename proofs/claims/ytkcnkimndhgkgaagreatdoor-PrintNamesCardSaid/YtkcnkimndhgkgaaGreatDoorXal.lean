/- Part of a proof of a statement of this seat. No conditions. -/
import Derived.Test.YtkcnkimndhgkgaaGreatDoorXak
import Derived.Shelf.Sort.Plain
import Derived.Shelf.Slices.In.SortNone
import Derived.Sort.OwnSortedInts
import Derived.WalkKit
import Derived.BigCall
import Derived.Deep.QuietTactic
set_option linter.all false
namespace Go.Proofs.YtkcnkimndhgkgaaGreatDoor
open Go.Ev
set_option maxRecDepth 100000
def CkP(r:Row)(n:Nat):Prop:=∀i,i<n->(r.R i 1).n<=1000000∧(r.R i 2).n<=1000000
instance(r:Row)(n:Nat):Decidable (CkP r n):=by unfold CkP;infer_instance
def cakR(r:Row)(j:Nat):Int:=cakE (r.I j 0) (winOf (r.R j 1) 0 (r.R j 1).n) (winOf (r.R j 2) 0 (r.R j 2).n)
def p_lk6:PSt:={τ:=pu 1++[.v (.c (.pointer (some ⟨0,0,some 0⟩)))]++pu 21++[.v (.sl 1),.v (.int .i64),.v (.int .i64)]++pu 25,saved:=[[]],mem:=[.box [.v (.sl 1),.v (.sl 2)],.row [.int .i64,.slice [.int .i64],.slice [.int .i64]] false,.row [.int .i64,.int .u8,.int .i64,.int .i64,.int .i64,.int .i64,.int .i64,.int .i64] false]}
structure A_lk6 where
 rn:Nat
 len:Int
 j:Int
 rn_2:Nat
 sn:Nat
 r:Row
 s:Row
def d_lk6(its:List It):Option A_lk6:=match its with|[.n rn,.i len,.i j,.n rn_2,.n sn,.r r,.r s]=>some ⟨rn,len,j,rn_2,sn,r,s⟩|_=>none
def c_lk6(x:A_lk6):Bool:=x.j=0∧x.len=x.rn∧x.rn_2=x.rn∧x.rn<=1000000∧CkP x.r x.rn
def c_lk6_iff{x:A_lk6}:=@ciff _ c_lk6 _ _ rfl x
def lk6:ScanL A_lk6:=⟨84,6,[1,23,24,25],[1,2],p_lk6,d_lk6,fun x j=>[.n x.rn,.i (x.rn:Int),.i (j:Int),.n x.rn,.n x.sn,.r x.r,.r x.s],fun x=>x.rn,c_lk6,fun x j=>cakR x.r j !=0,fun x j K=>K .ret ⟨us 1++[.pointer (some ⟨0,0,some 0⟩),i64 (cakR x.r j)]++us 48,[[]],[some (.box [S_ 1 0 x.rn,S_ 2 0 x.sn]),some (.row [.int .i64,.slice [.int .i64],.slice [.int .i64]] false x.r),some (.row [.int .i64,.int .u8,.int .i64,.int .i64,.int .i64,.int .i64,.int .i64,.int .i64] false x.s)]⟩,fun x K=>K (.exit 0) ⟨us 1++[.pointer (some ⟨0,0,some 0⟩)]++us 49,[[]],[some (.box [S_ 1 0 x.rn,S_ 2 0 x.sn]),some (.row [.int .i64,.slice [.int .i64],.slice [.int .i64]] false x.r),some (.row [.int .i64,.int .u8,.int .i64,.int .i64,.int .i64,.int .i64,.int .i64,.int .i64] false x.s)]⟩⟩
def p_lk13:PSt:={τ:=pu 1++[.v (.c (.pointer (some ⟨0,0,some 0⟩)))]++pu 34++[.v (.sl 1),.v (.int .i64),.v (.int .i64)]++pu 12,saved:=[[]],mem:=[.box [.v (.sl 1),.v (.sl 2)],.row [.int .i64,.slice [.int .i64],.slice [.int .i64]] false,.row [.int .i64,.int .u8,.int .i64,.int .i64,.int .i64,.int .i64,.int .i64,.int .i64] false]}
structure A_lk13 where
 rn:Nat
 len:Int
 j:Int
 rn_2:Nat
 sn:Nat
 r:Row
 s:Row
def d_lk13(its:List It):Option A_lk13:=match its with|[.n rn,.i len,.i j,.n rn_2,.n sn,.r r,.r s]=>some ⟨rn,len,j,rn_2,sn,r,s⟩|_=>none
def c_lk13(x:A_lk13):Bool:=x.j=0∧x.len=x.rn∧x.rn_2=x.rn∧x.rn<=1000000
def c_lk13_iff{x:A_lk13}:=@ciff _ c_lk13 _ _ rfl x
def lk13:ScanL A_lk13:=⟨84,13,[1,36,37,38],[2],p_lk13,d_lk13,fun x j=>[.n x.rn,.i (x.rn:Int),.i (j:Int),.n x.rn,.n x.sn,.r x.r,.r x.s],fun x=>x.rn,c_lk13,fun x j=>x.r.I j 0 !=x.r.I 0 0,fun x j K=>K .ret ⟨us 2++[i64 8]++us 48,[[]],[]⟩,fun x K=>K (.exit 2) ⟨us 51,[[]],[]⟩⟩
noncomputable def Cak:Cx:=mkCx Tryz.prog fns [(133,Fcak)] [lk6.C,lk13.C]
theorem r_lk6(R:St->OD)(K:X->St->OD)(q rn:Nat)(len j:Int)(rn_2 sn:Nat)(r s:Row):bodyOf Cak 84 6 q (bst p_lk6 [.n rn,.i len,.i j,.n rn_2,.n sn,.r r,.r s]) (rnd [1,23,24,25] (some [1,2]) R K)=br (j<len) (br (0<=j&&j<(rn:Int)) (br (decide ((winOf (r.R (0+j.toNat) 1) 0 (r.R (0+j.toNat) 1).n).n<=1000000∧(winOf (r.R (0+j.toNat) 2) 0 (r.R (0+j.toNat) 2).n).n<=1000000)) (br (cakE (r.I (0+j.toNat) 0) (winOf (r.R (0+j.toNat) 1) 0 (r.R (0+j.toNat) 1).n) (winOf (r.R (0+j.toNat) 2) 0 (r.R (0+j.toNat) 2).n) !=0) (K .ret ⟨us 1++[.pointer (some ⟨0,0,some 0⟩),i64 (cakE (r.I (0+j.toNat) 0) (winOf (r.R (0+j.toNat) 1) 0 (r.R (0+j.toNat) 1).n) (winOf (r.R (0+j.toNat) 2) 0 (r.R (0+j.toNat) 2).n))]++us 48,[[]],[some (.box [S_ 1 0 rn_2,S_ 2 0 sn]),some (.row [.int .i64,.slice [.int .i64],.slice [.int .i64]] false r),some (.row [.int .i64,.int .u8,.int .i64,.int .i64,.int .i64,.int .i64,.int .i64,.int .i64] false s)]⟩) (R ⟨us 1++[.pointer (some ⟨0,0,some 0⟩)]++us 21++[S_ 1 0 rn,i64 len,i64 (IntKind.i64.wrap (j+1))]++us 25,[[]],[some (.box [S_ 1 0 rn_2,S_ 2 0 sn]),some (.row [.int .i64,.slice [.int .i64],.slice [.int .i64]] false r),some (.row [.int .i64,.int .u8,.int .i64,.int .i64,.int .i64,.int .i64,.int .i64,.int .i64] false s)]⟩)) none) none) (K (.exit 0) ⟨us 1++[.pointer (some ⟨0,0,some 0⟩)]++us 49,[[]],[some (.box [S_ 1 0 rn_2,S_ 2 0 sn]),some (.row [.int .i64,.slice [.int .i64],.slice [.int .i64]] false r),some (.row [.int .i64,.int .u8,.int .i64,.int .i64,.int .i64,.int .i64,.int .i64,.int .i64] false s)]⟩):=by kernel_rfl
theorem r_lk13(R:St->OD)(K:X->St->OD)(q rn:Nat)(len j:Int)(rn_2 sn:Nat)(r s:Row):bodyOf Cak 84 13 q (bst p_lk13 [.n rn,.i len,.i j,.n rn_2,.n sn,.r r,.r s]) (rnd [1,36,37,38] (some [2]) R K)=br (j<len) (br (0<=j&&j<(rn:Int)) (br ((0:Int)<=0&&0<(rn_2:Int)) (br (r.I (0+j.toNat) 0 !=r.I 0 0) (K .ret ⟨us 2++[i64 8]++us 48,[[]],[]⟩) (R ⟨us 1++[.pointer (some ⟨0,0,some 0⟩)]++us 34++[S_ 1 0 rn,i64 len,i64 (IntKind.i64.wrap (j+1))]++us 12,[[]],[some (.box [S_ 1 0 rn_2,S_ 2 0 sn]),some (.row [.int .i64,.slice [.int .i64],.slice [.int .i64]] false r),some (.row [.int .i64,.int .u8,.int .i64,.int .i64,.int .i64,.int .i64,.int .i64,.int .i64] false s)]⟩)) none) none) (K (.exit 2) ⟨us 51,[[]],[]⟩):=by kernel_rfl
theorem uak(r s:Row):evF Cak 6 84 [.agg [.slice [.int .i64,.slice [.int .i64],.slice [.int .i64]] r,.slice [.int .i64,.int .u8,.int .i64,.int .i64,.int .i64,.int .i64,.int .i64,.int .i64] s]]=br ((r.n:Int)>6) (some [.v (i64 4)]) (br ((s.n:Int)>2000) (some [.v (i64 4)]) (br ((r.n:Int)==0) (some [.v (i64 8)]) (br (c_lk6 (⟨r.n,(r.n:Int),0,r.n,s.n,r,s⟩:A_lk6)) (br (anyF (fun j=>cakR r j !=0) r.n 0) (some [.v (i64 (cakR r (fstF (fun j=>cakR r j !=0) r.n 0)))]) (br (c_lk13 (⟨r.n,(r.n:Int),0,r.n,s.n,r,s⟩:A_lk13)) (br (anyF (fun j=>r.I j 0 !=r.I 0 0) r.n 0) (some [.v (i64 8)]) (some [.v (i64 0)])) none)) none))):=by kernel_rfl
theorem ok_lk6:LoopOk Cak lk6.C:=lk6.ok (by kernel_rfl)
 (fun its x h hc=>by
  replace h:d_lk6 its=some x:=h;unfold d_lk6 at h;split at h
  ·cases h;obtain⟨h1,h2,h3,h4,h5⟩:=c_lk6_iff.1 hc;dsimp only at h1 h2 h3;subst h1 h2 h3;rfl
  ·cases h)
 (fun x hc=>by have:=c_lk6_iff.1 hc;show x.rn<18446744073709551616;omega)
 (fun q ⟨rn,len0,j0,rn_2,sn,r,s⟩ j hc hi R K=>by
  obtain⟨h1,h2,h3,h4,h5⟩:=c_lk6_iff.1 hc;dsimp only at*
  replace hi:j<rn:=hi;refine(r_lk6 R K q rn ((rn:Int)) ((j:Int)) rn sn r s).trans ?_;have k1:=h5 j hi;rw[A9,AE j,gd j rn hi,ltd j rn hi,wsn (by omega),A4 (show(winOf (r.R j 1) 0 (r.R j 1).n).n<=1000000∧(winOf (r.R j 2) 0 (r.R j 2).n).n<=1000000 by rw[winOf_n,winOf_n];exact k1)];rfl)
 (fun q ⟨rn,len0,j0,rn_2,sn,r,s⟩ hc R K=>by
  obtain⟨h1,h2,h3,h4,h5⟩:=c_lk6_iff.1 hc;dsimp only at*
  refine(r_lk6 R K q rn ((rn:Int)) ((rn:Int)) rn sn r s).trans ?_;rw[ltn rn];rfl)
theorem ok_lk13:LoopOk Cak lk13.C:=lk13.ok (by kernel_rfl)
 (fun its x h hc=>by
  replace h:d_lk13 its=some x:=h;unfold d_lk13 at h;split at h
  ·cases h;obtain⟨h1,h2,h3,h4⟩:=c_lk13_iff.1 hc;dsimp only at h1 h2 h3;subst h1 h2 h3;rfl
  ·cases h)
 (fun x hc=>by have:=c_lk13_iff.1 hc;show x.rn<18446744073709551616;omega)
 (fun q ⟨rn,len0,j0,rn_2,sn,r,s⟩ j hc hi R K=>by
  obtain⟨h1,h2,h3,h4⟩:=c_lk13_iff.1 hc;dsimp only at*
  replace hi:j<rn:=hi;refine(r_lk13 R K q rn ((rn:Int)) ((j:Int)) rn sn r s).trans ?_;rw[A9,AE j,gd j rn hi,ltd j rn hi,wsn (by omega),show(decide ((0:Int)<=0)&&decide ((0:Int)<(rn:Int)))=true by simp;omega];rfl)
 (fun q ⟨rn,len0,j0,rn_2,sn,r,s⟩ hc R K=>by
  obtain⟨h1,h2,h3,h4⟩:=c_lk13_iff.1 hc;dsimp only at*
  refine(r_lk13 R K q rn ((rn:Int)) ((rn:Int)) rn sn r s).trans ?_;rw[ltn rn];rfl)
theorem Cak_ok:CxOk Cak:=mkCx_ok enter mixed (fun p h=>by
 simp only[A8,A7,or_false]at h;rcases h with rfl;exact den_cak) (fun l h=>by
 simp only[A8,A7,or_false]at h;rcases h with rfl|rfl
 ·exact ok_lk6
 ·exact ok_lk13)
def askE(r:Row):Int:=bif (r.n:Int)>6 then 4 else bif (r.n:Int)==0 then 8 else bif anyF (fun j=>cakR r j !=0) r.n 0 then cakR r (fstF (fun j=>cakR r j !=0) r.n 0)else bif anyF (fun j=>r.I j 0 !=r.I 0 0) r.n 0 then 8 else 0
def Fask:FD
 |[.agg [.slice [.int .i64,.slice [.int .i64],.slice [.int .i64]] r,.slice [.int .i64,.int .u8,.int .i64,.int .i64,.int .i64,.int .i64,.int .i64,.int .i64] s]]=>some (r.n<=1000000∧CkP r r.n∧s.n<=2000,[.v (i64 (askE r))])
 |_=>none
theorem den_ask:Den Tryz.prog 84 Fask:=evF_den Cak_ok fun ds rs h=>by
 unfold Fask at h;split at h
 ·rename_i r s;simp only[A5,A6,A3]at h;obtain⟨⟨h0,h1,h2⟩,rfl⟩:=h;refine(uak r s).trans ?_;rw[AB (show¬(s.n:Int)>2000 by omega),br_false,c_lk6_iff.2 ⟨rfl,rfl,rfl,h0,h1⟩,br_true,c_lk13_iff.2 ⟨rfl,rfl,rfl,h0⟩,br_true];exact br_e fun _=>br_e fun _=>br_e fun _=>br_e fun _=>rfl
 ·cases h
def FPc(c:Row->Row->Bool)(b:Row->Row->Int):FD
 |[.slice [.int .i64,.slice [.int .i64],.slice [.int .i64]] r,.agg [.slice [.slice [.int .i64,.int .i64,.int .i64,.int .i64]] p]]=>some (c r p,[.v (i64 (b r p))])
 |_=>none
def SpP(s:Row)(n:Nat):Prop:=∀i,i<n->(s.R i 0).n<=1000000∧∀k,k<(s.R i 0).n->rg4 (s.R i 0) k=true
instance(s:Row)(n:Nat):Decidable (SpP s n):=by unfold SpP;infer_instance
def pckR(s:Row)(j:Nat):Int:=pckE (winOf (s.R j 0) 0 (s.R j 0).n)
def p_lp7:PSt:={τ:=[.v (.sl 0)]++pu 2++[.v (.c (.pointer (some ⟨1,0,some 0⟩)))]++pu 21++[.v (.sl 2),.v (.int .i64),.v (.int .i64)]++pu 43,saved:=[[]],mem:=[.row [.int .i64,.slice [.int .i64],.slice [.int .i64]] false,.box [.v (.sl 2)],.row [.slice [.int .i64,.int .i64,.int .i64,.int .i64]] false]}
structure A_lp7 where
 rn:Nat
 n:Nat
 len:Int
 j:Int
 r:Row
 n_2:Nat
 s:Row
def d_lp7(its:List It):Option A_lp7:=match its with|[.n rn,.n n,.i len,.i j,.r r,.n n_2,.r s]=>some ⟨rn,n,len,j,r,n_2,s⟩|_=>none
def c_lp7(x:A_lp7):Bool:=x.j=0∧x.len=x.n∧x.n_2=x.n∧x.n<=1000000∧SpP x.s x.n
def c_lp7_iff{x:A_lp7}:=@ciff _ c_lp7 _ _ rfl x
def lp7:ScanL A_lp7:=⟨39,7,[0,3,25,26,27],[0,3,4],p_lp7,d_lp7,fun x j=>[.n x.rn,.n x.n,.i (x.n:Int),.i (j:Int),.r x.r,.n x.n,.r x.s],fun x=>x.n,c_lp7,fun x j=>pckR x.s j !=0,fun x j K=>K .ret ⟨[S_ 0 0 x.rn]++us 2++[.pointer (some ⟨1,0,some 0⟩),i64 (pckR x.s j)]++us 66,[[]],[some (.row [.int .i64,.slice [.int .i64],.slice [.int .i64]] false x.r),some (.box [S_ 2 0 x.n]),some (.row [.slice [.int .i64,.int .i64,.int .i64,.int .i64]] false x.s)]⟩,fun x K=>K (.exit 0) ⟨[S_ 0 0 x.rn]++us 2++[.pointer (some ⟨1,0,some 0⟩)]++us 67,[[]],[some (.row [.int .i64,.slice [.int .i64],.slice [.int .i64]] false x.r),some (.box [S_ 2 0 x.n]),some (.row [.slice [.int .i64,.int .i64,.int .i64,.int .i64]] false x.s)]⟩⟩
def Fwho:FD
 |[.v (.int .i64 a)]=>some (Rt.iR a,[.agg [.v (i64 a),.v (i64 1)]])
 |_=>none
noncomputable def Cwh:Cx:=mkCx Tryz.prog fns [] []
theorem Cwh_ok:CxOk Cwh:=mkCx_ok enter mixed (fun p h=>by cases h) (fun l h=>by cases h)
theorem uwh(a:Int):evF Cwh 6 87 [.v (i64 a)]=some [.agg [.v (i64 a),.v (i64 1)]]:=by kernel_rfl
theorem den_who:Den Tryz.prog 87 Fwho:=evF_den Cwh_ok fun ds rs h=>by
 unfold Fwho at h;split at h
 ·rename_i a;simp only[A5,A6]at h;obtain⟨h0,rfl⟩:=h;obtain⟨h1,h2⟩:=Rt.iR_iff.1 h0;refine(uwh a).trans ?_
  first|rfl|rw[wrap64 (by omega) (by omega)]
 ·cases h
def outS(r s:Row)(j:Nat):Bool:=bif ((s.R j 0).n:Int)>0 then decide ((s.R j 0).I 0 0<0)||decide (Rt.cpC (r.I 0 0) 1 ((s.R j 0).I ((s.R j 0).n-1) 2) ((s.R j 0).I ((s.R j 0).n-1) 3)<0)else false
def p_lp14:PSt:={τ:=[.v (.sl 0)]++pu 37++[.v (.sl 1),.v (.int .i64),.v (.int .i64)]++pu 30,saved:=[[]],mem:=[.row [.int .i64,.slice [.int .i64],.slice [.int .i64]] false,.row [.slice [.int .i64,.int .i64,.int .i64,.int .i64]] false]}
structure A_lp14 where
 rn:Nat
 n:Nat
 len:Int
 j:Int
 r:Row
 s:Row
def d_lp14(its:List It):Option A_lp14:=match its with|[.n rn,.n n,.i len,.i j,.r r,.r s]=>some ⟨rn,n,len,j,r,s⟩|_=>none
def c_lp14(x:A_lp14):Bool:=x.j=0∧x.len=x.n∧x.n<=1000000∧SpP x.s x.n∧1<=x.rn∧Rt.iR (x.r.I 0 0)=true
def c_lp14_iff{x:A_lp14}:=@ciff _ c_lp14 _ _ rfl x
def lp14:ScanL A_lp14:=⟨39,14,[0,38,39,40],[4],p_lp14,d_lp14,fun x j=>[.n x.rn,.n x.n,.i (x.n:Int),.i (j:Int),.r x.r,.r x.s],fun x=>x.n,c_lp14,fun x j=>outS x.r x.s j,fun x j K=>K .ret ⟨us 4++[i64 2]++us 66,[[]],[]⟩,fun x K=>K (.exit 2) ⟨us 71,[[]],[]⟩⟩
noncomputable def Cp7:Cx:=mkCx Tryz.prog fns [(84,Fask),(85,Fpck),(86,Fles),(87,Fwho)] [lp7.C,lp14.C]
theorem r_lp7(R:St->OD)(K:X->St->OD)(q rn n:Nat)(len j:Int)(r:Row)(n_2:Nat)(s:Row):bodyOf Cp7 39 7 q (bst p_lp7 [.n rn,.n n,.i len,.i j,.r r,.n n_2,.r s]) (rnd [0,3,25,26,27] (some [0,3,4]) R K)=br (j<len) (br (0<=j&&j<(n:Int)) (br (decide ((winOf (s.R (0+j.toNat) 0) 0 (s.R (0+j.toNat) 0).n).n<=1000000∧∀(i:Nat),i<(winOf (s.R (0+j.toNat) 0) 0 (s.R (0+j.toNat) 0).n).n->rg4 (winOf (s.R (0+j.toNat) 0) 0 (s.R (0+j.toNat) 0).n) i=true)) (br (pckE (winOf (s.R (0+j.toNat) 0) 0 (s.R (0+j.toNat) 0).n) !=0) (K .ret ⟨[S_ 0 0 rn]++us 2++[.pointer (some ⟨1,0,some 0⟩),i64 (pckE (winOf (s.R (0+j.toNat) 0) 0 (s.R (0+j.toNat) 0).n))]++us 66,[[]],[some (.row [.int .i64,.slice [.int .i64],.slice [.int .i64]] false r),some (.box [S_ 2 0 n_2]),some (.row [.slice [.int .i64,.int .i64,.int .i64,.int .i64]] false s)]⟩) (R ⟨[S_ 0 0 rn]++us 2++[.pointer (some ⟨1,0,some 0⟩)]++us 21++[S_ 2 0 n,i64 len,i64 (IntKind.i64.wrap (j+1))]++us 43,[[]],[some (.row [.int .i64,.slice [.int .i64],.slice [.int .i64]] false r),some (.box [S_ 2 0 n_2]),some (.row [.slice [.int .i64,.int .i64,.int .i64,.int .i64]] false s)]⟩)) none) none) (K (.exit 0) ⟨[S_ 0 0 rn]++us 2++[.pointer (some ⟨1,0,some 0⟩)]++us 67,[[]],[some (.row [.int .i64,.slice [.int .i64],.slice [.int .i64]] false r),some (.box [S_ 2 0 n_2]),some (.row [.slice [.int .i64,.int .i64,.int .i64,.int .i64]] false s)]⟩):=by kernel_rfl
theorem r_lp14(R:St->OD)(K:X->St->OD)(q rn n:Nat)(len j:Int)(r s:Row):bodyOf Cp7 39 14 q (bst p_lp14 [.n rn,.n n,.i len,.i j,.r r,.r s]) (rnd [0,38,39,40] (some [4]) R K)=br (j<len) (br (0<=j&&j<(n:Int)) (br ((↑(s.R (0+j.toNat) 0).n:Int)>0) (br ((0:Int)<=0&&0<(↑(s.R (0+j.toNat) 0).n:Int)) (br ((s.R (0+j.toNat) 0).I (0+0) 0<0) (K .ret ⟨us 4++[i64 2]++us 66,[[]],[]⟩) (br ((0:Int)<=0&&0<(rn:Int)) (br (Rt.iR (r.I 0 0)) (br (0<=IntKind.i64.wrap ((↑(s.R (0+j.toNat) 0).n:Int)-1)&&IntKind.i64.wrap ((↑(s.R (0+j.toNat) 0).n:Int)-1)<(↑(s.R (0+j.toNat) 0).n:Int)) (br (Rt.iR (r.I 0 0)&&Rt.iR 1&&Rt.iR ((s.R (0+j.toNat) 0).I (0+(IntKind.i64.wrap ((↑(s.R (0+j.toNat) 0).n:Int)-1)).toNat) 2)&&Rt.iR ((s.R (0+j.toNat) 0).I (0+(IntKind.i64.wrap ((↑(s.R (0+j.toNat) 0).n:Int)-1)).toNat) 3)) (br (Rt.cpC (r.I (0+0) 0) 1 ((s.R (0+j.toNat) 0).I (0+(IntKind.i64.wrap ((↑(s.R (0+j.toNat) 0).n:Int)-1)).toNat) 2) ((s.R (0+j.toNat) 0).I (0+(IntKind.i64.wrap ((↑(s.R (0+j.toNat) 0).n:Int)-1)).toNat) 3)<0) (K .ret ⟨us 4++[i64 2]++us 66,[[]],[]⟩) (R ⟨[S_ 0 0 rn]++us 37++[S_ 1 0 n,i64 len,i64 (IntKind.i64.wrap (j+1))]++us 30,[[]],[some (.row [.int .i64,.slice [.int .i64],.slice [.int .i64]] false r),some (.row [.slice [.int .i64,.int .i64,.int .i64,.int .i64]] false s)]⟩)) none) none) none) none)) none) (R ⟨[S_ 0 0 rn]++us 37++[S_ 1 0 n,i64 len,i64 (IntKind.i64.wrap (j+1))]++us 30,[[]],[some (.row [.int .i64,.slice [.int .i64],.slice [.int .i64]] false r),some (.row [.slice [.int .i64,.int .i64,.int .i64,.int .i64]] false s)]⟩)) none) (K (.exit 2) ⟨us 71,[[]],[]⟩):=by kernel_rfl
theorem up7(r s:Row):evF Cp7 6 39 [.slice [.int .i64,.slice [.int .i64],.slice [.int .i64]] r,.agg [.slice [.slice [.int .i64,.int .i64,.int .i64,.int .i64]] s]]=br (decide ((winOf r 0 r.n).n<=1000000∧CkP (winOf r 0 r.n) (winOf r 0 r.n).n∧Row.nil.n<=2000)) (br (askE (winOf r 0 r.n) !=0) (some [.v (i64 (askE (winOf r 0 r.n)))]) (br ((s.n:Int) !=(r.n:Int)) (some [.v (i64 2)]) (br (c_lp7 (⟨r.n,s.n,(s.n:Int),0,r,s.n,s⟩:A_lp7)) (br (anyF (fun j=>pckR s j !=0) s.n 0) (some [.v (i64 (pckR s (fstF (fun j=>pckR s j !=0) s.n 0)))]) (br (c_lp14 (⟨r.n,s.n,(s.n:Int),0,r,s⟩:A_lp14)) (br (anyF (fun j=>outS r s j) s.n 0) (some [.v (i64 2)]) (some [.v (i64 0)])) none)) none))) (none):=by kernel_rfl
theorem ok_lp7:LoopOk Cp7 lp7.C:=lp7.ok (by kernel_rfl)
 (fun its x h hc=>by
  replace h:d_lp7 its=some x:=h;unfold d_lp7 at h;split at h
  ·cases h;obtain⟨h1,h2,h3,h4,h5⟩:=c_lp7_iff.1 hc;dsimp only at h1 h2 h3;subst h1 h2 h3;rfl
  ·cases h)
 (fun x hc=>by have:=c_lp7_iff.1 hc;show x.n<18446744073709551616;omega)
 (fun q ⟨rn,n,len0,j0,r,n_2,s⟩ j hc hi R K=>by
  obtain⟨h1,h2,h3,h4,h5⟩:=c_lp7_iff.1 hc;dsimp only at*
  replace hi:j<n:=hi;refine(r_lp7 R K q rn n ((n:Int)) ((j:Int)) r n s).trans ?_;have k1:=h5 j hi;rw[A9,AE j,gd j n hi,ltd j n hi,wsn (by omega),A4 (show(winOf (s.R j 0) 0 (s.R j 0).n).n<=1000000∧∀i,i<(winOf (s.R j 0) 0 (s.R j 0).n).n->rg4 (winOf (s.R j 0) 0 (s.R j 0).n) i=true by rw[winOf_n];exact⟨k1.1,fun i hi=>by rw[rg4_win];exact k1.2 i hi⟩)];rfl)
 (fun q ⟨rn,n,len0,j0,r,n_2,s⟩ hc R K=>by
  obtain⟨h1,h2,h3,h4,h5⟩:=c_lp7_iff.1 hc;dsimp only at*
  refine(r_lp7 R K q rn n ((n:Int)) ((n:Int)) r n s).trans ?_;rw[ltn n];rfl)
theorem ok_lp14:LoopOk Cp7 lp14.C:=lp14.ok (by kernel_rfl)
 (fun its x h hc=>by
  replace h:d_lp14 its=some x:=h;unfold d_lp14 at h;split at h
  ·cases h;obtain⟨h1,h2,h3,h4,h5,h6⟩:=c_lp14_iff.1 hc;dsimp only at h1 h2;subst h1 h2;rfl
  ·cases h)
 (fun x hc=>by have:=c_lp14_iff.1 hc;show x.n<18446744073709551616;omega)
 (fun q ⟨rn,n,len0,j0,r,s⟩ j hc hi R K=>by
  obtain⟨h1,h2,h3,h4,h5,h6⟩:=c_lp14_iff.1 hc;dsimp only at*
  replace hi:j<n:=hi;refine(r_lp14 R K q rn n ((n:Int)) ((j:Int)) r s).trans ?_;have k1:=h4 j hi;rw[A9,AE j,gd j n hi,ltd j n hi,wsn (by omega),show(decide ((0:Int)<=0)&&decide ((0:Int)<(rn:Int)))=true by simp;omega,h6];by_cases hz:0<(s.R j 0).n
  ·have k2:=k1.2 ((s.R j 0).n-1) (by omega);unfold rg4 at k2;simp only[A2]at k2;have e:lp14.bad ⟨rn,n,len0,j0,r,s⟩ j=(decide ((s.R j 0).I 0 0<0)||decide (Rt.cpC (r.I 0 0) 1 ((s.R j 0).I ((s.R j 0).n-1) 2) ((s.R j 0).I ((s.R j 0).n-1) 3)<0)):=by
    show outS r s j=_;unfold outS;rw[A4 (show((s.R j 0).n:Int)>0 by omega)];rfl
   rw[e,br_or,A4 (show((s.R j 0).n:Int)>0 by omega),show(decide ((0:Int)<=0)&&true)=true from rfl,show IntKind.i64.wrap (((s.R j 0).n:Int)-1)=(((s.R j 0).n-1:Nat):Int)from(wrap64 (by omega) (by omega)).trans (by omega),A9,AE ((s.R j 0).n-1),gd _ _ (show(s.R j 0).n-1<(s.R j 0).n by omega),k2.1.2,k2.2,show Rt.iR 1=true from rfl];rfl
  ·have e:lp14.bad ⟨rn,n,len0,j0,r,s⟩ j=false:=by
    show outS r s j=_;unfold outS;rw[AB (show¬((s.R j 0).n:Int)>0 by omega)];rfl
   rw[e,AB (show¬((s.R j 0).n:Int)>0 by omega)];rfl)
 (fun q ⟨rn,n,len0,j0,r,s⟩ hc R K=>by
  obtain⟨h1,h2,h3,h4,h5,h6⟩:=c_lp14_iff.1 hc;dsimp only at*
  refine(r_lp14 R K q rn n ((n:Int)) ((n:Int)) r s).trans ?_;rw[ltn n];rfl)
theorem Cp7_ok:CxOk Cp7:=mkCx_ok enter mixed (fun p h=>by
 simp only[A8,A7,or_false]at h;rcases h with rfl|rfl|rfl|rfl
 ·exact den_ask
 ·exact den_pck
 ·exact den_les
 ·exact den_who) (fun l h=>by
 simp only[A8,A7,or_false]at h;rcases h with rfl|rfl
 ·exact ok_lp7
 ·exact ok_lp14)
theorem cakE_zero{l:Int}{p q:Row}(h:cakE l p q=0):1<=l∧l<=1000:=by
 unfold cakE at h;cases h1:decide (l>1000)
 ·rw[h1]at h;cases h2:decide ((p.n:Int)>40)
  ·rw[h2]at h;cases h3:decide (l<1)
   ·have:=AO h1;have:=AO h3;omega
   ·rw[h3]at h;exact absurd h (by simp)
  ·rw[h2]at h;exact absurd h (by simp)
 ·rw[h1]at h;exact absurd h (by simp)
theorem askE_zero{r:Row}(h:askE r=0):1<=r.n∧r.n<=6∧(∀j,j<r.n->cakR r j=0)∧∀j,j<r.n->r.I j 0=r.I 0 0:=by
 unfold askE at h;cases h1:decide ((r.n:Int)>6)
 ·rw[h1]at h;cases h2:(r.n:Int)==0
  ·rw[h2]at h;cases h3:anyF (fun j=>cakR r j !=0) r.n 0
   ·rw[h3]at h;cases h4:anyF (fun j=>r.I j 0 !=r.I 0 0) r.n 0
    ·have:=AO h1;have h2':¬(r.n:Int)=0:=by simpa using h2
     refine⟨by omega,by omega,fun j hj=>?_,fun j hj=>?_⟩
     ·simpa using anyF_false.1 h3 j (Nat.zero_le _) (by omega)
     ·simpa using anyF_false.1 h4 j (Nat.zero_le _) (by omega)
    ·rw[h4]at h;exact absurd h (by simp)
   ·rw[h3]at h;have:=(fstF_any _ _ _ h3).2.1;simp only[cond_true,cond_false]at h;rw[h]at this;cases this
  ·rw[h2]at h;exact absurd h (by simp)
 ·rw[h1]at h;exact absurd h (by simp)
def proE(r s:Row):Int:=bif askE r !=0 then askE r else bif (s.n:Int) !=(r.n:Int)then 2 else bif anyF (fun j=>pckR s j !=0) s.n 0 then pckR s (fstF (fun j=>pckR s j !=0) s.n 0)else bif anyF (outS r s) s.n 0 then 2 else 0
def proC(r s:Row):Bool:=r.n<=1000000∧CkP r r.n∧s.n<=1000000∧SpP s s.n
theorem den_pro:Den Tryz.prog 39 (FPc proC proE):=evF_den Cp7_ok fun ds rs h=>by
 unfold FPc at h;split at h
 ·rename_i r s;simp only[A5,A6]at h;obtain⟨h0,rfl⟩:=h;obtain⟨g1,g2,g3,g4⟩:=AD h0;refine(up7 r s).trans ?_;refine br_g (A4 ⟨by rw[winOf_n];exact g1,fun i hi=>g2 i hi,Nat.zero_le _⟩) ?_;rw[c_lp7_iff.2 ⟨rfl,rfl,rfl,g3,g4⟩,br_true];refine br_e fun h1=>br_e fun h2=>br_e fun h3=>?_;have ha:askE r=0:=by simpa using(show(askE r !=0)=false from h1)
  obtain⟨a1,_,a3,_⟩:=askE_zero ha;have l1:=cakE_zero (a3 0 (by omega));refine br_g (c_lp14_iff.2 ⟨rfl,rfl,g3,g4,a1,Rt.iR_iff.2 ?_⟩) (br_e fun h4=>rfl);show-9223372036854775808<=r.I 0 0∧r.I 0 0<9223372036854775808;omega
 ·cases h
def Rg2(t:Row)(m:Nat):Prop:=∀i,i<m->(Rt.iR (t.I i 0)&&Rt.iR (t.I i 1))=true
instance(t:Row)(m:Nat):Decidable (Rg2 t m):=by unfold Rg2;infer_instance
def SqP(r:Row)(n:Nat):Prop:=∀i,i<n->(r.R i 0).n<=1000000∧Rg2 (r.R i 0) (r.R i 0).n
instance(r:Row)(n:Nat):Decidable (SqP r n):=by unfold SqP;infer_instance
def badQ(t:Row):Bool:=anyF (fun i=>Rt.chkE (t.I i 0) (t.I i 1) !=0) t.n 0
def p_l5s:PSt:={τ:=[.v (.sl 0),.v (.int .i64)]++pu 4++[.v (.sl 1)]++pu 2++[.v (.sl 0),.v (.int .i64),.v (.int .i64)]++pu 3++[.v (.sl 1),.v (.int .i64),.v (.int .i64)]++pu 16,saved:=[[]],mem:=[.row [.slice [.int .i64,.int .i64]] false,.row [.int .i64,.int .i64] false]}
structure A_l5s where
 n:Nat
 k:Int
 m:Nat
 n_2:Nat
 lo:Int
 jo:Int
 m_2:Nat
 len:Int
 j:Int
 r:Row
 t:Row
def d_l5s(its:List It):Option A_l5s:=match its with|[.n n,.i k,.n m,.n n_2,.i lo,.i jo,.n m_2,.i len,.i j,.r r,.r t]=>some ⟨n,k,m,n_2,lo,jo,m_2,len,j,r,t⟩|_=>none
def c_l5s(x:A_l5s):Bool:=x.j=0∧x.len=x.m∧x.n_2=x.n∧x.m_2=x.m∧x.m<=1000000∧Rg2 x.t x.m
def c_l5s_iff{x:A_l5s}:=@ciff _ c_l5s _ _ rfl x
def l5s:ScanL A_l5s:=⟨40,5,[0,1,6,9,10,11,15,16,17],[0,1,4,6,9,10,11],p_l5s,d_l5s,fun x j=>[.n x.n,.i x.k,.n x.m,.n x.n,.i x.lo,.i x.jo,.n x.m,.i (x.m:Int),.i (j:Int),.r x.r,.r x.t],fun x=>x.m,c_l5s,fun x j=>Rt.chkE (x.t.I j 0) (x.t.I j 1) !=0,fun x j K=>K .ret ⟨[S_ 0 0 x.n,i64 x.k]++us 2++[.bool false]++us 1++[S_ 1 0 x.m]++us 2++[S_ 0 0 x.n,i64 x.lo,i64 x.jo]++us 22,[[]],[some (.row [.slice [.int .i64,.int .i64]] false x.r),some (.row [.int .i64,.int .i64] false x.t)]⟩,fun x K=>K (.exit 2) ⟨[S_ 0 0 x.n,i64 x.k]++us 4++[S_ 1 0 x.m]++us 2++[S_ 0 0 x.n,i64 x.lo,i64 x.jo]++us 22,[[]],[some (.row [.slice [.int .i64,.int .i64]] false x.r),some (.row [.int .i64,.int .i64] false x.t)]⟩⟩
def p_l2s:PSt:={τ:=[.v (.sl 0),.v (.int .i64)]++pu 7++[.v (.sl 0),.v (.int .i64),.v (.int .i64)]++pu 22,saved:=[[]],mem:=[.row [.slice [.int .i64,.int .i64]] false]}
structure A_l2s where
 n:Nat
 k:Int
 n_2:Nat
 len:Int
 j:Int
 r:Row
def d_l2s(its:List It):Option A_l2s:=match its with|[.n n,.i k,.n n_2,.i len,.i j,.r r]=>some ⟨n,k,n_2,len,j,r⟩|_=>none
def c_l2s(x:A_l2s):Bool:=x.j=0∧x.len=x.n∧x.n_2=x.n∧x.n<=1000000∧SqP x.r x.n
def c_l2s_iff{x:A_l2s}:=@ciff _ c_l2s _ _ rfl x
def l2s:ScanL A_l2s:=⟨40,2,[0,1,9,10,11],[0,1,4],p_l2s,d_l2s,fun x j=>[.n x.n,.i x.k,.n x.n,.i (x.n:Int),.i (j:Int),.r x.r],fun x=>x.n,c_l2s,fun x j=>badQ (x.r.R j 0)||((x.r.R j 0).n:Int) !=x.k,fun x j K=>K .ret ⟨[S_ 0 0 x.n,i64 x.k]++us 2++[.bool false]++us 29,[[]],[some (.row [.slice [.int .i64,.int .i64]] false x.r)]⟩,fun x K=>K (.exit 0) ⟨[S_ 0 0 x.n,i64 x.k]++us 32,[[]],[some (.row [.slice [.int .i64,.int .i64]] false x.r)]⟩⟩
noncomputable def Csq:Cx:=mkCx Tryz.prog fns [(88,Rt.Fchk)] [l5s.C,l2s.C]
theorem r_l5s(R:St->OD)(K:X->St->OD)(q n:Nat)(k:Int)(m n_2:Nat)(lo jo:Int)(m_2:Nat)(len j:Int)(r t:Row):bodyOf Csq 40 5 q (bst p_l5s [.n n,.i k,.n m,.n n_2,.i lo,.i jo,.n m_2,.i len,.i j,.r r,.r t]) (rnd [0,1,6,9,10,11,15,16,17] (some [0,1,4,6,9,10,11]) R K)=br (j<len) (br (0<=j&&j<(m_2:Int)) (br (Rt.iR (t.I (0+j.toNat) 0)&&Rt.iR (t.I (0+j.toNat) 1)) (br (Rt.chkE (t.I (0+j.toNat) 0) (t.I (0+j.toNat) 1) !=0) (K .ret ⟨[S_ 0 0 n,i64 k]++us 2++[.bool false]++us 1++[S_ 1 0 m]++us 2++[S_ 0 0 n_2,i64 lo,i64 jo]++us 22,[[]],[some (.row [.slice [.int .i64,.int .i64]] false r),some (.row [.int .i64,.int .i64] false t)]⟩) (R ⟨[S_ 0 0 n,i64 k]++us 4++[S_ 1 0 m]++us 2++[S_ 0 0 n_2,i64 lo,i64 jo]++us 3++[S_ 1 0 m_2,i64 len,i64 (IntKind.i64.wrap (j+1))]++us 16,[[]],[some (.row [.slice [.int .i64,.int .i64]] false r),some (.row [.int .i64,.int .i64] false t)]⟩)) none) none) (K (.exit 2) ⟨[S_ 0 0 n,i64 k]++us 4++[S_ 1 0 m]++us 2++[S_ 0 0 n_2,i64 lo,i64 jo]++us 22,[[]],[some (.row [.slice [.int .i64,.int .i64]] false r),some (.row [.int .i64,.int .i64] false t)]⟩):=by kernel_rfl
theorem r_l2s(R:St->OD)(K:X->St->OD)(q n:Nat)(k:Int)(n_2:Nat)(len j:Int)(r:Row):bodyOf Csq 40 2 q (bst p_l2s [.n n,.i k,.n n_2,.i len,.i j,.r r]) (rnd [0,1,9,10,11] (some [0,1,4]) R K)=br (j<len) (br (0<=j&&j<(n_2:Int)) (br (c_l5s (⟨n,k,(r.R (0+j.toNat) 0).n,n_2,len,j,(r.R (0+j.toNat) 0).n,(↑(r.R (0+j.toNat) 0).n:Int),0,r,r.R (0+j.toNat) 0⟩:A_l5s)) (br (anyF (fun j_1=>Rt.chkE ((r.R (0+j.toNat) 0).I j_1 0) ((r.R (0+j.toNat) 0).I j_1 1) !=0) (r.R (0+j.toNat) 0).n 0) (K .ret ⟨[S_ 0 0 n,i64 k]++us 2++[.bool false]++us 29,[[]],[some (.row [.slice [.int .i64,.int .i64]] false r)]⟩) (br ((↑(r.R (0+j.toNat) 0).n:Int) !=k) (K .ret ⟨[S_ 0 0 n,i64 k]++us 2++[.bool false]++us 29,[[]],[some (.row [.slice [.int .i64,.int .i64]] false r)]⟩) (R ⟨[S_ 0 0 n,i64 k]++us 7++[S_ 0 0 n,i64 len,i64 (IntKind.i64.wrap (j+1))]++us 22,[[]],[some (.row [.slice [.int .i64,.int .i64]] false r)]⟩))) none) none) (K (.exit 0) ⟨[S_ 0 0 n,i64 k]++us 32,[[]],[some (.row [.slice [.int .i64,.int .i64]] false r)]⟩):=by kernel_rfl
theorem usq(r:Row)(k:Int):evF Csq 6 40 [.slice [.slice [.int .i64,.int .i64]] r,.v (i64 k)]=br (c_l2s (⟨r.n,k,r.n,(r.n:Int),0,r⟩:A_l2s)) (br (anyF (fun j=>badQ (r.R j 0)||(↑(r.R j 0).n:Int) !=k) r.n 0) (some [.v (.bool false)]) (some [.v (.bool ((r.n:Int)==k))])) (none):=by kernel_rfl
theorem ok_l5s:LoopOk Csq l5s.C:=l5s.ok (by kernel_rfl)
 (fun its x h hc=>by
  replace h:d_l5s its=some x:=h;unfold d_l5s at h;split at h
  ·cases h;obtain⟨h1,h2,h3,h4,h5,h6⟩:=c_l5s_iff.1 hc;dsimp only at h1 h2 h3 h4;subst h1 h2 h3 h4;rfl
  ·cases h)
 (fun x hc=>by have:=c_l5s_iff.1 hc;show x.m<18446744073709551616;omega)
 (fun q ⟨n,k,m,n_2,lo,jo,m_2,len0,j0,r,t⟩ j hc hi R K=>by
  obtain⟨h1,h2,h3,h4,h5,h6⟩:=c_l5s_iff.1 hc;dsimp only at*
  replace hi:j<m:=hi;refine(r_l5s R K q n k m n lo jo m ((m:Int)) ((j:Int)) r t).trans ?_;have k1:=h6 j hi;rw[A9,AE j,gd j m hi,ltd j m hi,wsn (by omega),k1];rfl)
 (fun q ⟨n,k,m,n_2,lo,jo,m_2,len0,j0,r,t⟩ hc R K=>by
  obtain⟨h1,h2,h3,h4,h5,h6⟩:=c_l5s_iff.1 hc;dsimp only at*
  refine(r_l5s R K q n k m n lo jo m ((m:Int)) ((m:Int)) r t).trans ?_;rw[ltn m];rfl)
theorem ok_l2s:LoopOk Csq l2s.C:=l2s.ok (by kernel_rfl)
 (fun its x h hc=>by
  replace h:d_l2s its=some x:=h;unfold d_l2s at h;split at h
  ·cases h;obtain⟨h1,h2,h3,h4,h5⟩:=c_l2s_iff.1 hc;dsimp only at h1 h2 h3;subst h1 h2 h3;rfl
  ·cases h)
 (fun x hc=>by have:=c_l2s_iff.1 hc;show x.n<18446744073709551616;omega)
 (fun q ⟨n,k,n_2,len0,j0,r⟩ j hc hi R K=>by
  obtain⟨h1,h2,h3,h4,h5⟩:=c_l2s_iff.1 hc;dsimp only at*
  replace hi:j<n:=hi;refine(r_l2s R K q n k n ((n:Int)) ((j:Int)) r).trans ?_;have k1:=h5 j hi;rw[A9,AE j,gd j n hi,ltd j n hi,wsn (by omega),br_true,br_true];refine(congrArg (fun c=>br c _ _) (c_l5s_iff.2 ⟨rfl,rfl,rfl,rfl,k1.1,k1.2⟩)).trans ?_;rw[br_true];exact(br_or _ _ _ _).symm)
 (fun q ⟨n,k,n_2,len0,j0,r⟩ hc R K=>by
  obtain⟨h1,h2,h3,h4,h5⟩:=c_l2s_iff.1 hc;dsimp only at*
  refine(r_l2s R K q n k n ((n:Int)) ((n:Int)) r).trans ?_;rw[ltn n];rfl)
theorem Csq_ok:CxOk Csq:=mkCx_ok enter mixed (fun p h=>by
 simp only[A8,A7,or_false]at h;rcases h with rfl;exact Rt.den_chk) (fun l h=>by
 simp only[A8,A7,or_false]at h;rcases h with rfl|rfl
 ·exact ok_l5s
 ·exact ok_l2s)
def sqB(r:Row)(k:Int):Bool:= !(anyF (fun j=>badQ (r.R j 0)||((r.R j 0).n:Int) !=k) r.n 0)&&((r.n:Int)==k)
def sqC(r:Row)(_:Int):Bool:=r.n<=1000000∧SqP r r.n
def FSq(c b:Row->Int->Bool):FD
 |[.slice [.slice [.int .i64,.int .i64]] r,.v (.int .i64 n)]=>some (c r n,[.v (.bool (b r n))])
 |_=>none
theorem den_sq:Den Tryz.prog 40 (FSq sqC sqB):=evF_den Csq_ok fun ds rs h=>by
 unfold FSq at h;split at h
 ·rename_i r k;simp only[A5,A6]at h;obtain⟨h0,rfl⟩:=h;have h0:=AD h0;refine(usq r k).trans ?_;rw[c_l2s_iff.2 ⟨rfl,rfl,rfl,h0⟩,br_true];unfold sqB;show br (anyF (fun j=>badQ (r.R j 0)||((r.R j 0).n:Int) !=k) r.n 0) _ _=_;cases anyF (fun j=>badQ (r.R j 0)||((r.R j 0).n:Int) !=k) r.n 0<;>rfl
 ·cases h
def bidB(v:Int):Bool:=decide (v<0)||decide (v>1000000)
def p_la2:PSt:={τ:=[.v (.sl 0),.v (.c (.func (.func 129) #[] #[]))]++pu 5++[.v (.int .i64),.v (.int .i64)]++pu 10,saved:=[[.v (.sl 0),.v (.c (.func (.func 129) #[] #[]))]++pu 2++[.v (.c (.bool false)),.v (.sl 0),.v (.c (.func (.func 129) #[] #[]))]++pu 2,[]],mem:=[.row [.int .i64] false]}
structure A_la2 where
 n:Nat
 len:Int
 j:Int
 n_2:Nat
 n_3:Nat
 r:Row
def d_la2(its:List It):Option A_la2:=match its with|[.n n,.i len,.i j,.n n_2,.n n_3,.r r]=>some ⟨n,len,j,n_2,n_3,r⟩|_=>none
def c_la2(x:A_la2):Bool:=x.j=0∧x.len=x.n∧x.n_2=x.n∧x.n_3=x.n∧x.n<=1000000
def c_la2_iff{x:A_la2}:=@ciff _ c_la2 _ _ rfl x
def la2:ScanL A_la2:=⟨140,2,[0,1,7,8],[4],p_la2,d_la2,fun x j=>[.n x.n,.i (x.n:Int),.i (j:Int),.n x.n,.n x.n,.r x.r],fun x=>x.n,c_la2,fun x j=>bidB (x.r.I j 0),fun x j K=>K .ret ⟨us 4++[i64 ((j:Int))]++us 14,[[S_ 0 0 x.n,.func (.func 129) #[] #[]]++us 2++[.bool false,S_ 0 0 x.n,.func (.func 129) #[] #[]]++us 2,[]],[some (.row [.int .i64] false x.r)]⟩,fun x K=>K (.exit 0) ⟨us 19,[[S_ 0 0 x.n,.func (.func 129) #[] #[]]++us 2++[.bool false,S_ 0 0 x.n,.func (.func 129) #[] #[]]++us 2,[]],[some (.row [.int .i64] false x.r)]⟩⟩
noncomputable def Ca2:Cx:=mkCx Tryz.prog fns [] [la2.C]
theorem r_la2(R:St->OD)(K:X->St->OD)(q n:Nat)(len j:Int)(n_2 n_3:Nat)(r:Row):bodyOf Ca2 140 2 q (bst p_la2 [.n n,.i len,.i j,.n n_2,.n n_3,.r r]) (rnd [0,1,7,8] (some [4]) R K)=br (j<len) (br (0<=j&&j<(n:Int)) (br (r.I (0+j.toNat) 0<0) (K .ret ⟨us 4++[i64 j]++us 14,[[S_ 0 0 n_2,.func (.func 129) #[] #[]]++us 2++[.bool false,S_ 0 0 n_3,.func (.func 129) #[] #[]]++us 2,[]],[some (.row [.int .i64] false r)]⟩) (br (r.I (0+j.toNat) 0>1000000) (K .ret ⟨us 4++[i64 j]++us 14,[[S_ 0 0 n_2,.func (.func 129) #[] #[]]++us 2++[.bool false,S_ 0 0 n_3,.func (.func 129) #[] #[]]++us 2,[]],[some (.row [.int .i64] false r)]⟩) (R ⟨[S_ 0 0 n,.func (.func 129) #[] #[]]++us 5++[i64 len,i64 (IntKind.i64.wrap (j+1))]++us 10,[[S_ 0 0 n_2,.func (.func 129) #[] #[]]++us 2++[.bool false,S_ 0 0 n_3,.func (.func 129) #[] #[]]++us 2,[]],[some (.row [.int .i64] false r)]⟩))) none) (K (.exit 0) ⟨us 19,[[S_ 0 0 n_2,.func (.func 129) #[] #[]]++us 2++[.bool false,S_ 0 0 n_3,.func (.func 129) #[] #[]]++us 2,[]],[some (.row [.int .i64] false r)]⟩):=by kernel_rfl
theorem ua2(r:Row):evF Ca2 6 92 [.slice ksI r,.v (.func (.func 129) #[] #[])]=br (c_la2 (⟨r.n,(r.n:Int),0,r.n,r.n,r⟩:A_la2)) (br (anyF (fun j=>bidB (r.I j 0)) r.n 0) (some [.v (.bool ((↑(fstF (la2.bad (⟨r.n,(r.n:Int),0,r.n,r.n,r⟩:A_la2)) (la2.len (⟨r.n,(r.n:Int),0,r.n,r.n,r⟩:A_la2)) 0):Int)>=0))]) (some [.v (.bool (-1>=0))])) (none):=by kernel_rfl
theorem ok_la2:LoopOk Ca2 la2.C:=la2.ok (by kernel_rfl)
 (fun its x h hc=>by
  replace h:d_la2 its=some x:=h;unfold d_la2 at h;split at h
  ·cases h;obtain⟨h1,h2,h3,h4,h5⟩:=c_la2_iff.1 hc;dsimp only at h1 h2 h3 h4;subst h1 h2 h3 h4;rfl
  ·cases h)
 (fun x hc=>by have:=c_la2_iff.1 hc;show x.n<18446744073709551616;omega)
 (fun q ⟨n,len0,j0,n_2,n_3,r⟩ j hc hi R K=>by
  obtain⟨h1,h2,h3,h4,h5⟩:=c_la2_iff.1 hc;dsimp only at*
  replace hi:j<n:=hi;refine(r_la2 R K q n ((n:Int)) ((j:Int)) n n r).trans ?_;rw[A9,AE j,gd j n hi,ltd j n hi,wsn (by omega),br_true,br_true];exact(br_or _ _ _ _).symm)
 (fun q ⟨n,len0,j0,n_2,n_3,r⟩ hc R K=>by
  obtain⟨h1,h2,h3,h4,h5⟩:=c_la2_iff.1 hc;dsimp only at*
  refine(r_la2 R K q n ((n:Int)) ((n:Int)) n n r).trans ?_;rw[ltn n];rfl)
theorem Ca2_ok:CxOk Ca2:=mkCx_ok enter mixed (fun p h=>by cases h) (fun l h=>by
 simp only[A8,A7,or_false]at h;rcases h with rfl;exact ok_la2)
def rowBid(r:Row):Bool:=anyF (fun j=>bidB (r.I j 0)) r.n 0
def FCFa:FD
 |[.slice [.int .i64] r,.v (.func (.func 129) ⟨[]⟩ ⟨[]⟩)]=>some (r.n<=1000000,[.v (.bool (rowBid r))])
 |_=>none
theorem den_CFa:Den Tryz.prog 92 FCFa:=evF_den Ca2_ok fun ds rs h=>by
 unfold FCFa at h;split at h
 ·rename_i r;simp only[A5,A6]at h;obtain⟨h0,rfl⟩:=h;have h0:=AD h0;refine(ua2 r).trans ?_;rw[c_la2_iff.2 ⟨rfl,rfl,rfl,rfl,h0⟩,br_true];show br (rowBid r) _ _=some [D.v (.bool (rowBid r))];cases rowBid r
  ·rfl
  ·rw[br_true,A4 (by omega)]
 ·cases h
def VaP(r:Row)(n:Nat):Prop:=∀i,i<n->(r.R i 0).n<=1000000
instance(r:Row)(n:Nat):Decidable (VaP r n):=by unfold VaP;infer_instance
def badA(r:Row)(n j:Nat):Bool:=((r.R j 0).n:Int) !=(n:Int)||rowBid (r.R j 0)
def p_la7:PSt:={τ:=[.v (.sl 0)]++pu 2++[.v (.c (.func (.func 129) #[] #[]))]++pu 8++[.v (.sl 0),.v (.int .i64),.v (.int .i64)]++pu 14,saved:=[[]],mem:=[.row [.slice [.int .i64]] false]}
structure A_la7 where
 n:Nat
 n_2:Nat
 len:Int
 j:Int
 r:Row
def d_la7(its:List It):Option A_la7:=match its with|[.n n,.n n_2,.i len,.i j,.r r]=>some ⟨n,n_2,len,j,r⟩|_=>none
def c_la7(x:A_la7):Bool:=x.j=0∧x.len=x.n∧x.n_2=x.n∧x.n<=1000000∧VaP x.r x.n
def c_la7_iff{x:A_la7}:=@ciff _ c_la7 _ _ rfl x
def la7:ScanL A_la7:=⟨79,7,[0,3,12,13,14],[2],p_la7,d_la7,fun x j=>[.n x.n,.n x.n,.i (x.n:Int),.i (j:Int),.r x.r],fun x=>x.n,c_la7,fun x j=>badA x.r x.n j,fun x j K=>K .ret ⟨us 2++[i64 8]++us 26,[[]],[]⟩,fun x K=>K (.exit 0) ⟨us 29,[[]],[]⟩⟩
noncomputable def Ca7:Cx:=mkCx Tryz.prog fns [(92,FCFa)] [la7.C]
theorem r_la7(R:St->OD)(K:X->St->OD)(q n n_2:Nat)(len j:Int)(r:Row):bodyOf Ca7 79 7 q (bst p_la7 [.n n,.n n_2,.i len,.i j,.r r]) (rnd [0,3,12,13,14] (some [2]) R K)=br (j<len) (br (0<=j&&j<(n_2:Int)) (br ((↑(r.R (0+j.toNat) 0).n:Int) !=(n:Int)) (K .ret ⟨us 2++[i64 8]++us 26,[[]],[]⟩) (br ((winOf (r.R (0+j.toNat) 0) 0 (r.R (0+j.toNat) 0).n).n<=1000000) (br (rowBid (winOf (r.R (0+j.toNat) 0) 0 (r.R (0+j.toNat) 0).n)) (K .ret ⟨us 2++[i64 8]++us 26,[[]],[]⟩) (R ⟨[S_ 0 0 n]++us 2++[.func (.func 129) #[] #[]]++us 8++[S_ 0 0 n_2,i64 len,i64 (IntKind.i64.wrap (j+1))]++us 14,[[]],[some (.row [.slice [.int .i64]] false r)]⟩)) none)) none) (K (.exit 0) ⟨us 29,[[]],[]⟩):=by kernel_rfl
theorem ua7(r:Row):evF Ca7 6 79 [.slice ksV r]=br ((r.n:Int)>6) (some [.v (i64 4)]) (br ((r.n:Int)==0) (some [.v (i64 8)]) (br (c_la7 (⟨r.n,r.n,(r.n:Int),0,r⟩:A_la7)) (br (anyF (fun j=>badA r r.n j) r.n 0) (some [.v (i64 8)]) (some [.v (i64 0)])) none)):=by kernel_rfl
theorem ok_la7:LoopOk Ca7 la7.C:=la7.ok (by kernel_rfl)
 (fun its x h hc=>by
  replace h:d_la7 its=some x:=h;unfold d_la7 at h;split at h
  ·cases h;obtain⟨h1,h2,h3,h4,h5⟩:=c_la7_iff.1 hc;dsimp only at h1 h2 h3;subst h1 h2 h3;rfl
  ·cases h)
 (fun x hc=>by have:=c_la7_iff.1 hc;show x.n<18446744073709551616;omega)
 (fun q ⟨n,n_2,len0,j0,r⟩ j hc hi R K=>by
  obtain⟨h1,h2,h3,h4,h5⟩:=c_la7_iff.1 hc;dsimp only at*
  replace hi:j<n:=hi;refine(r_la7 R K q n n ((n:Int)) ((j:Int)) r).trans ?_;have k1:=h5 j hi;rw[A9,AE j,gd j n hi,ltd j n hi,wsn (by omega),show decide ((winOf (r.R j 0) 0 (r.R j 0).n).n<=1000000)=true from A4 (by rw[winOf_n];exact k1),br_true,br_true,br_true];exact(br_or _ _ _ _).symm)
 (fun q ⟨n,n_2,len0,j0,r⟩ hc R K=>by
  obtain⟨h1,h2,h3,h4,h5⟩:=c_la7_iff.1 hc;dsimp only at*
  refine(r_la7 R K q n n ((n:Int)) ((n:Int)) r).trans ?_;rw[ltn n];rfl)
theorem Ca7_ok:CxOk Ca7:=mkCx_ok enter mixed (fun p h=>by
 simp only[A8,A7,or_false]at h;rcases h with rfl;exact den_CFa) (fun l h=>by
 simp only[A8,A7,or_false]at h;rcases h with rfl;exact ok_la7)
def asgE(r:Row):Int:=bif (r.n:Int)>6 then 4 else bif (r.n:Int)==0 then 8 else bif anyF (badA r r.n) r.n 0 then 8 else 0
def asgC(r:Row):Bool:=r.n<=1000000∧VaP r r.n
def Fasg:FD
 |[.slice [.slice [.int .i64]] r]=>some (asgC r,[.v (i64 (asgE r))])
 |_=>none
theorem den_asg:Den Tryz.prog 79 Fasg:=evF_den Ca7_ok fun ds rs h=>by
 unfold Fasg at h;split at h
 ·rename_i r;simp only[A5,A6]at h;obtain⟨h0,rfl⟩:=h;have h0:=AD h0;refine(ua7 r).trans ?_;rw[c_la7_iff.2 ⟨rfl,rfl,rfl,h0⟩,br_true];exact br_e fun _=>br_e fun _=>br_e fun _=>rfl
 ·cases h
noncomputable def Cro:Cx:=mkCx Tryz.prog fns [(79,Fasg)] []
theorem Cro_ok:CxOk Cro:=mkCx_ok enter mixed (fun p h=>by
 simp only[A8,A7,or_false]at h;rcases h with rfl;exact den_asg) (fun l h=>by cases h)
theorem uro(r:Row)(n:Int):evF Cro 6 44 [.agg [.slice ksV r,.v (i64 n)]]=br (asgC (winOf r 0 r.n)) (br (asgE (winOf r 0 r.n) !=0) (some [.v (i64 (asgE (winOf r 0 r.n)))]) (br (n<0) (some [.v (i64 8)]) (br (n>10000000) (some [.v (i64 8)]) (some [.v (i64 0)])))) (none):=by kernel_rfl
def rooE(r:Row)(n:Int):Int:=bif asgE r !=0 then asgE r else bif n<0 then 8 else bif n>10000000 then 8 else 0
def rooC(r:Row)(_:Int):Bool:=asgC r
def FRc(c:Row->Int->Bool)(b:Row->Int->Int):FD
 |[.agg [.slice [.slice [.int .i64]] r,.v (.int .i64 n)]]=>some (c r n,[.v (i64 (b r n))])
 |_=>none
theorem den_roo:Den Tryz.prog 44 (FRc rooC rooE):=evF_den Cro_ok fun ds rs h=>by
 unfold FRc at h;split at h
 ·rename_i r n;simp only[A5,A6]at h;obtain⟨h0,rfl⟩:=h;refine(uro r n).trans ?_;refine br_g (show asgC (winOf r 0 r.n)=true from h0) (br_e fun _=>br_e fun _=>br_e fun _=>rfl)
 ·cases h
def FVl(c:Row->Row->Bool)(o e:Row->Row->Int):FD
 |[.slice [.slice [.int .i64]] r,.slice [.int .i64] a]=>some (c r a,[.v (i64 (o r a)),.v (i64 (e r a))])
 |_=>none
def priB(m v:Int):Bool:=decide (v< -10000000*m)||decide (v>10000000*m)
def p_lrv:PSt:={τ:=pu 2++[.v (.c (.pointer (some ⟨0,0,some 0⟩))),.v (.c (.pointer (some ⟨1,0,some 0⟩)))]++pu 4++[.v (.int .i64)]++pu 36++[.v (.sl 2),.v (.int .i64),.v (.int .i64)]++pu 26,saved:=[[]],mem:=[.box [.v (.sl 3),.v (.int .i64)],.box [.v (.sl 4),.v (.sl 2),.v (.int .i64)],.row [.int .i64] false,.row [.slice [.int .i64]] false,.row [.int .i64] false]}
structure A_lrv where
 sm:Int
 n:Nat
 len:Int
 j:Int
 rn:Nat
 k:Int
 pn:Nat
 n_2:Nat
 m:Int
 qr:Row
 r:Row
 p:Row
def d_lrv(its:List It):Option A_lrv:=match its with|[.i sm,.n n,.i len,.i j,.n rn,.i k,.n pn,.n n_2,.i m,.r qr,.r r,.r p]=>some ⟨sm,n,len,j,rn,k,pn,n_2,m,qr,r,p⟩|_=>none
def c_lrv(x:A_lrv):Bool:=x.j=0∧x.len=x.n∧x.n_2=x.n∧x.n<=1000000∧1<=x.m∧x.m<=60∧x.sm=0
def c_lrv_iff{x:A_lrv}:=@ciff _ c_lrv _ _ rfl x
def lrv:RunL A_lrv (Int):=⟨45,11,[2,3,8,45,46,47],[2,3,4,8],p_lrv,d_lrv,fun x j a=>[.i a,.n x.n,.i (x.n:Int),.i (j:Int),.n x.rn,.i x.k,.n x.pn,.n x.n,.i x.m,.r x.qr,.r x.r,.r x.p],fun x=>x.n,c_lrv,fun x=>x.sm,fun x j a=>priB x.m (x.qr.I j 0),fun x j a=>a+x.qr.I j 0,fun x j a K=>K .ret ⟨us 2++[.pointer (some ⟨0,0,some 0⟩),.pointer (some ⟨1,0,some 0⟩),i64 8]++us 3++[i64 ((a))]++us 65,[[]],[some (.box [S_ 2 0 x.rn,i64 x.k]),some (.box [S_ 3 0 x.pn,S_ 4 0 x.n,i64 x.m]),some (.row [.slice [.int .i64]] false x.r),some (.row [.int .i64] false x.p),some (.row [.int .i64] false x.qr)]⟩,fun x a K=>K (.exit 0) ⟨us 2++[.pointer (some ⟨0,0,some 0⟩),.pointer (some ⟨1,0,some 0⟩)]++us 4++[i64 ((a))]++us 65,[[]],[some (.box [S_ 2 0 x.rn,i64 x.k]),some (.box [S_ 3 0 x.pn,S_ 4 0 x.n,i64 x.m]),some (.row [.slice [.int .i64]] false x.r),some (.row [.int .i64] false x.p),some (.row [.int .i64] false x.qr)]⟩⟩
noncomputable def Crv(c:Row->Row->Bool)(o e:Row->Row->Int):Cx:=mkCx Tryz.prog fns [(44,FRc rooC rooE),(36,FVl c o e)] [lrv.C]
theorem r_lrv(c:Row->Row->Bool)(o e:Row->Row->Int)(R:St->OD)(K:X->St->OD)(q:Nat)(sm:Int)(n:Nat)(len j:Int)(rn:Nat)(k:Int)(pn n_2:Nat)(m:Int)(qr r p:Row):bodyOf (Crv c o e) 45 11 q (bst p_lrv [.i sm,.n n,.i len,.i j,.n rn,.i k,.n pn,.n n_2,.i m,.r qr,.r r,.r p]) (rnd [2,3,8,45,46,47] (some [2,3,4,8]) R K)=br (j<len) (br (0<=j&&j<(n:Int)) (br (qr.I (0+j.toNat) 0<IntKind.i64.wrap (-10000000*m)) (K .ret ⟨us 2++[.pointer (some ⟨0,0,some 0⟩),.pointer (some ⟨1,0,some 0⟩),i64 8]++us 3++[i64 sm]++us 65,[[]],[some (.box [S_ 2 0 rn,i64 k]),some (.box [S_ 3 0 pn,S_ 4 0 n_2,i64 m]),some (.row [.slice [.int .i64]] false r),some (.row [.int .i64] false p),some (.row [.int .i64] false qr)]⟩) (br (qr.I (0+j.toNat) 0>IntKind.i64.wrap (10000000*m)) (K .ret ⟨us 2++[.pointer (some ⟨0,0,some 0⟩),.pointer (some ⟨1,0,some 0⟩),i64 8]++us 3++[i64 sm]++us 65,[[]],[some (.box [S_ 2 0 rn,i64 k]),some (.box [S_ 3 0 pn,S_ 4 0 n_2,i64 m]),some (.row [.slice [.int .i64]] false r),some (.row [.int .i64] false p),some (.row [.int .i64] false qr)]⟩) (R ⟨us 2++[.pointer (some ⟨0,0,some 0⟩),.pointer (some ⟨1,0,some 0⟩)]++us 4++[i64 (IntKind.i64.wrap (sm+qr.I (0+j.toNat) 0))]++us 36++[S_ 2 0 n,i64 len,i64 (IntKind.i64.wrap (j+1))]++us 26,[[]],[some (.box [S_ 3 0 rn,i64 k]),some (.box [S_ 4 0 pn,S_ 2 0 n_2,i64 m]),some (.row [.int .i64] false qr),some (.row [.slice [.int .i64]] false r),some (.row [.int .i64] false p)]⟩))) none) (K (.exit 0) ⟨us 2++[.pointer (some ⟨0,0,some 0⟩),.pointer (some ⟨1,0,some 0⟩)]++us 4++[i64 sm]++us 65,[[]],[some (.box [S_ 2 0 rn,i64 k]),some (.box [S_ 3 0 pn,S_ 4 0 n_2,i64 m]),some (.row [.slice [.int .i64]] false r),some (.row [.int .i64] false p),some (.row [.int .i64] false qr)]⟩):=by kernel_rfl
theorem urv(c:Row->Row->Bool)(o e:Row->Row->Int)(r p qr:Row)(n m:Int):evF (Crv c o e) 6 45 [.agg [.slice ksV r,.v (i64 n)],.agg [.slice ksI p,.slice ksI qr,.v (i64 m)]]=br (rooC (winOf r 0 r.n) n) (br (rooE (winOf r 0 r.n) n !=0) (some [.v (i64 (rooE (winOf r 0 r.n) n))]) (br (c (winOf r 0 r.n) (winOf p 0 p.n)) (br (e (winOf r 0 r.n) (winOf p 0 p.n) !=0) (some [.v (i64 (e (winOf r 0 r.n) (winOf p 0 p.n)))]) (br (m<1) (some [.v (i64 8)]) (br (m>60) (some [.v (i64 8)]) (br ((qr.n:Int) !=(r.n:Int)) (some [.v (i64 8)]) (br (c_lrv (⟨0,qr.n,(qr.n:Int),0,r.n,n,p.n,qr.n,m,qr,r,p⟩:A_lrv)) (br ((runS (lrv.stop (⟨0,qr.n,(qr.n:Int),0,r.n,n,p.n,qr.n,m,qr,r,p⟩:A_lrv)) (lrv.nx (⟨0,qr.n,(qr.n:Int),0,r.n,n,p.n,qr.n,m,qr,r,p⟩:A_lrv)) (lrv.len (⟨0,qr.n,(qr.n:Int),0,r.n,n,p.n,qr.n,m,qr,r,p⟩:A_lrv)) 0 (lrv.ini (⟨0,qr.n,(qr.n:Int),0,r.n,n,p.n,qr.n,m,qr,r,p⟩:A_lrv))).1) (some [.v (i64 8)]) (br ((runS (lrv.stop (⟨0,qr.n,(qr.n:Int),0,r.n,n,p.n,qr.n,m,qr,r,p⟩:A_lrv)) (lrv.nx (⟨0,qr.n,(qr.n:Int),0,r.n,n,p.n,qr.n,m,qr,r,p⟩:A_lrv)) (lrv.len (⟨0,qr.n,(qr.n:Int),0,r.n,n,p.n,qr.n,m,qr,r,p⟩:A_lrv)) 0 (lrv.ini (⟨0,qr.n,(qr.n:Int),0,r.n,n,p.n,qr.n,m,qr,r,p⟩:A_lrv))).snd.2 !=IntKind.i64.wrap (n*m)) (some [.v (i64 8)]) (some [.v (i64 0)]))) none))))) none)) (none):=by kernel_rfl
theorem ok_lrv(c:Row->Row->Bool)(o e:Row->Row->Int):LoopOk (Crv c o e) lrv.C:=lrv.ok (fun x j a=> -600000000*(j:Int)<=a∧a<=600000000*(j:Int)) (by kernel_rfl)
 (fun its x h hc=>by
  replace h:d_lrv its=some x:=h;unfold d_lrv at h;split at h
  ·cases h;obtain⟨h1,h2,h3,h4,h5,h6,h7⟩:=c_lrv_iff.1 hc;dsimp only at h1 h2 h3;subst h1 h2 h3;rfl
  ·cases h)
 (fun x hc=>by have:=c_lrv_iff.1 hc;show x.n<18446744073709551616;omega)
 (fun x hc=>by
  have:=(c_lrv_iff.1 hc).2.2.2.2.2.2;show-600000000*((0:Nat):Int)<=x.sm∧x.sm<=600000000*((0:Nat):Int);omega)
 (fun x j a hc hi hI hs=>by
  have g:=c_lrv_iff.1 hc;replace hI: -600000000*(j:Int)<=a∧a<=600000000*(j:Int):=hI;replace hs:priB x.m (x.qr.I j 0)=false:=hs;unfold priB at hs;simp only[AI,decide_eq_false_iff_not]at hs;show-600000000*((j+1:Nat):Int)<=a+x.qr.I j 0∧a+x.qr.I j 0<=600000000*((j+1:Nat):Int);omega)
 (fun q ⟨sm0,n,len0,j0,rn,k,pn,n_2,m,qr,r,p⟩ j a hc hi hI R K=>by
  obtain⟨h1,h2,h3,h4,h5,h6,h7⟩:=c_lrv_iff.1 hc;dsimp only at*
  replace hi:j<n:=hi;refine(r_lrv c o e R K q ((a)) n ((n:Int)) ((j:Int)) rn k pn n m qr r p).trans ?_;replace hI: -600000000*(j:Int)<=a∧a<=600000000*(j:Int):=hI;rw[A9,AE j,gd j n hi,ltd j n hi,wsn (by omega),show IntKind.i64.wrap (-10000000*m)= -10000000*m from wrap64 (by omega) (by omega),show IntKind.i64.wrap (10000000*m)=10000000*m from wrap64 (by omega) (by omega),br_true,br_true];refine(br_or _ _ _ _).symm.trans ?_;show br (priB m (qr.I j 0)) _ _=br (priB m (qr.I j 0)) _ _;cases hb:priB m (qr.I j 0)
  ·unfold priB at hb;simp only[AI,decide_eq_false_iff_not]at hb;rw[br_false,br_false,show IntKind.i64.wrap (a+qr.I j 0)=a+qr.I j 0 from wrap64 (by omega) (by omega)];rfl
  ·rfl)
 (fun q ⟨sm0,n,len0,j0,rn,k,pn,n_2,m,qr,r,p⟩ a hc hI R K=>by
  obtain⟨h1,h2,h3,h4,h5,h6,h7⟩:=c_lrv_iff.1 hc;dsimp only at*
  refine(r_lrv c o e R K q ((a)) n ((n:Int)) ((n:Int)) rn k pn n m qr r p).trans ?_;rw[ltn n];rfl)
theorem Crv_ok{c:Row->Row->Bool}{o e:Row->Row->Int}(hv:Den Tryz.prog 36 (FVl c o e)):CxOk (Crv c o e):=mkCx_ok enter mixed (fun p h=>by
 simp only[A8,A7,or_false]at h;rcases h with rfl|rfl
 ·exact den_roo
 ·exact hv) (fun l h=>by
 simp only[A8,A7,or_false]at h;rcases h with rfl;exact ok_lrv ..)
def prcS(m:Int)(qr:Row):Bool×Nat×Int:=runS (fun j _=>priB m (qr.I j 0)) (fun j a=>a+qr.I j 0) qr.n 0 0
def rvlE(e:Row->Row->Int)(r:Row)(n:Int)(p qr:Row)(m:Int):Int:=bif rooE r n !=0 then rooE r n else bif e (win0 r) (win0 p) !=0 then e (win0 r) (win0 p)else bif m<1 then 8 else bif m>60 then 8 else bif (qr.n:Int) !=(r.n:Int)then 8 else bif (prcS m qr).1 then 8 else bif (prcS m qr).2.2 !=IntKind.i64.wrap (n*m)then 8 else 0
def rvlC(c:Row->Row->Bool)(r:Row)(n:Int)(p qr:Row)(_:Int):Bool:=rooC r n&&c (win0 r) (win0 p)&&decide (qr.n<=1000000)
def FRv(c:Row->Int->Row->Row->Int->Bool)(b:Row->Int->Row->Row->Int->Int):FD
 |[.agg [.slice [.slice [.int .i64]] r,.v (.int .i64 n)],.agg [.slice [.int .i64] p,.slice [.int .i64] q,.v (.int .i64 m)]]=>some (c r n p q m,[.v (i64 (b r n p q m))])
 |_=>none
theorem den_rvl{c:Row->Row->Bool}{o e:Row->Row->Int}(hv:Den Tryz.prog 36 (FVl c o e)):Den Tryz.prog 45 (FRv (rvlC c) (rvlE e)):=evF_den (Crv_ok hv) fun ds rs h=>by
 unfold FRv at h;split at h
 ·rename_i r n p qr m;simp only[A5,A6]at h;obtain⟨h0,rfl⟩:=h;unfold rvlC at h0;rw[A2,A2]at h0;obtain⟨⟨g1,g2⟩,g3⟩:=h0;have g3:=AD g3;refine(urv c o e r p qr n m).trans ?_;refine br_g (show rooC (winOf r 0 r.n) n=true from g1) (br_e fun h1=>br_g (show c (winOf r 0 r.n) (winOf p 0 p.n)=true from g2) (br_e fun h2=>br_e fun h3=>br_e fun h4=>br_e fun h5=>?_));have k3:¬m<1:=AO h3;have k4:¬m>60:=AO h4;refine br_g (c_lrv_iff.2 ⟨rfl,rfl,rfl,g3,by show 1<=m;omega,by show m<=60;omega,rfl⟩) ?_;exact br_e fun h6=>br_e fun h7=>rfl
 ·cases h
def AsP(r a:Row)(n:Nat):Prop:=n<=r.n∧∀i,i<n->0<=a.I i 0∧a.I i 0<((r.R i 0).n:Int)
instance(r a:Row)(n:Nat):Decidable (AsP r a n):=by unfold AsP;infer_instance
def p_lva:PSt:={τ:=[.v (.sl 0)]++pu 4++[.v (.int .i64)]++pu 2++[.v (.sl 1),.v (.int .i64),.v (.int .i64)]++pu 15,saved:=[[]],mem:=[.row [.slice [.int .i64]] false,.row [.int .i64] false]}
structure A_lva where
 rn:Nat
 sm:Int
 n:Nat
 len:Int
 j:Int
 r:Row
 a0:Row
def d_lva(its:List It):Option A_lva:=match its with|[.n rn,.i sm,.n n,.i len,.i j,.r r,.r a0]=>some ⟨rn,sm,n,len,j,r,a0⟩|_=>none
def c_lva(x:A_lva):Bool:=x.j=0∧x.len=x.n∧x.n<=1000000∧AsP x.r x.a0 x.n∧x.rn=x.r.n
def c_lva_iff{x:A_lva}:=@ciff _ c_lva _ _ rfl x
def lva:FoldL A_lva (Int):=⟨82,3,[0,5,8,9,10],[4,5],p_lva,d_lva,fun x j a=>[.n x.rn,.i a,.n x.n,.i (x.n:Int),.i (j:Int),.r x.r,.r x.a0],fun x=>x.n,c_lva,fun x=>x.sm,fun x j a=>IntKind.i64.wrap (a+(x.r.R j 0).I (x.a0.I j 0).toNat 0),fun x a K=>K (.exit 0) ⟨us 5++[i64 ((a))]++us 20,[[]],[]⟩⟩
noncomputable def Cva:Cx:=mkCx Tryz.prog fns [] [lva.C]
theorem r_lva(R:St->OD)(K:X->St->OD)(q rn:Nat)(sm:Int)(n:Nat)(len j:Int)(r a0:Row):bodyOf Cva 82 3 q (bst p_lva [.n rn,.i sm,.n n,.i len,.i j,.r r,.r a0]) (rnd [0,5,8,9,10] (some [4,5]) R K)=br (j<len) (br (0<=j&&j<(n:Int)) (br (0<=j&&j<(rn:Int)) (br (0<=a0.I (0+j.toNat) 0&&a0.I (0+j.toNat) 0<(↑(r.R (0+j.toNat) 0).n:Int)) (R ⟨[S_ 0 0 rn]++us 4++[i64 (IntKind.i64.wrap (sm+(r.R (0+j.toNat) 0).I (0+(a0.I (0+j.toNat) 0).toNat) 0))]++us 2++[S_ 1 0 n,i64 len,i64 (IntKind.i64.wrap (j+1))]++us 15,[[]],[some (.row [.slice [.int .i64]] false r),some (.row [.int .i64] false a0)]⟩) none) none) none) (K (.exit 0) ⟨us 5++[i64 sm]++us 20,[[]],[]⟩):=by kernel_rfl
theorem uva(r a:Row):evF Cva 6 82 [.slice ksV r,.slice ksI a]=br (c_lva (⟨r.n,0,a.n,(a.n:Int),0,r,a⟩:A_lva)) (some [.v (i64 (fldN (fun j a_1=>IntKind.i64.wrap (a_1+(r.R j 0).I (a.I j 0).toNat 0)) a.n 0 0))]) (none):=by kernel_rfl
theorem ok_lva:LoopOk Cva lva.C:=lva.ok (fun x j a=>True) (by kernel_rfl)
 (fun its x h hc=>by
  replace h:d_lva its=some x:=h;unfold d_lva at h;split at h
  ·cases h;obtain⟨h1,h2,h3,h4,h5⟩:=c_lva_iff.1 hc;dsimp only at h1 h2;subst h1 h2;rfl
  ·cases h)
 (fun x hc=>by have:=c_lva_iff.1 hc;show x.n<18446744073709551616;omega)
 (fun x hc=>by
  trivial)
 (fun x j a hc hi hI=>by
  trivial)
 (fun q ⟨rn,sm0,n,len0,j0,r,a0⟩ j a hc hi hI R K=>by
  obtain⟨h1,h2,h3,h4,h5⟩:=c_lva_iff.1 hc;dsimp only at*
  replace hi:j<n:=hi;refine(r_lva R K q rn ((a)) n ((n:Int)) ((j:Int)) r a0).trans ?_;have k1:=h4.2 j hi;have k2:=h4.1;rw[A9,AE j,gd j n hi,ltd j n hi,wsn (by omega),gd j rn (by omega),show(decide (0<=a0.I j 0)&&decide (a0.I j 0<((r.R j 0).n:Int)))=true by simp only[A2,A3];exact k1,AE];rfl)
 (fun q ⟨rn,sm0,n,len0,j0,r,a0⟩ a hc hI R K=>by
  obtain⟨h1,h2,h3,h4,h5⟩:=c_lva_iff.1 hc;dsimp only at*
  refine(r_lva R K q rn ((a)) n ((n:Int)) ((n:Int)) r a0).trans ?_;rw[ltn n];rfl)
theorem Cva_ok:CxOk Cva:=mkCx_ok enter mixed (fun p h=>by cases h) (fun l h=>by
 simp only[A8,A7,or_false]at h;rcases h with rfl;exact ok_lva)
def valI(r a:Row):Int:=fldN (fun j c=>IntKind.i64.wrap (c+(r.R j 0).I (a.I j 0).toNat 0)) a.n 0 0
def vaC(r a:Row):Bool:=a.n<=1000000∧AsP r a a.n
def FVa(c:Row->Row->Bool)(o:Row->Row->Int):FD
 |[.slice [.slice [.int .i64]] r,.slice [.int .i64] a]=>some (c r a,[.v (i64 (o r a))])
 |_=>none
theorem den_va:Den Tryz.prog 82 (FVa vaC valI):=evF_den Cva_ok fun ds rs h=>by
 unfold FVa at h;split at h
 ·rename_i r a;simp only[A5,A6]at h;obtain⟨h0,rfl⟩:=h;have h0:=AD h0;refine(uva r a).trans ?_;rw[c_lva_iff.2 ⟨rfl,rfl,h0.1,h0.2,rfl⟩,br_true];rfl
 ·cases h
def FAs(c b:Row->Int->Bool):FD
 |[.slice [.int .i64] a,.v (.int .i64 n)]=>some (c a n,[.v (.bool (b a n))])
 |_=>none
noncomputable def CVl(c b:Row->Int->Bool):Cx:=mkCx Tryz.prog fns [(79,Fasg),(81,FAs c b),(82,FVa vaC valI)] []
theorem uVl(c b:Row->Int->Bool)(r a:Row):evF (CVl c b) 6 36 [.slice ksV r,.slice ksI a]=br (asgC (winOf r 0 r.n)) (br (asgE (winOf r 0 r.n) !=0) (some [.v (i64 0),.v (i64 (asgE (winOf r 0 r.n)))]) (br (c (winOf a 0 a.n) (r.n:Int)) (br (!b (winOf a 0 a.n) (r.n:Int)) (some [.v (i64 0),.v (i64 8)]) (br (vaC (winOf r 0 r.n) (winOf a 0 a.n)) (some [.v (i64 (valI (winOf r 0 r.n) (winOf a 0 a.n))),.v (i64 0)]) none)) none)) (none):=by kernel_rfl
theorem CVl_ok{c:Row->Int->Bool}{b:Row->Int->Bool}(hv:Den Tryz.prog 81 (FAs c b)):CxOk (CVl c b):=mkCx_ok enter mixed (fun p h=>by
 simp only[A8,A7,or_false]at h;rcases h with rfl|rfl|rfl
 ·exact den_asg
 ·exact hv
 ·exact den_va) (fun l h=>by cases h)
def vluE(b:Row->Int->Bool)(r a:Row):Int:=bif asgE r !=0 then asgE r else bif !b (win0 a) (r.n:Int)then 8 else 0
def vluO(b:Row->Int->Bool)(r a:Row):Int:=bif asgE r !=0 then 0 else bif !b (win0 a) (r.n:Int)then 0 else valI r a
def vluC(c:Row->Int->Bool)(r a:Row):Bool:=asgC r&&c (win0 a) (r.n:Int)
theorem asgE_zero{r:Row}(h:asgE r=0):1<=r.n∧r.n<=6∧∀j,j<r.n->(r.R j 0).n=r.n∧rowBid (r.R j 0)=false:=by
 unfold asgE at h;cases h1:decide ((r.n:Int)>6)
 ·rw[h1]at h;cases h2:(r.n:Int)==0
  ·rw[h2]at h;cases h3:anyF (badA r r.n) r.n 0
   ·have:=AO h1;have h2':¬(r.n:Int)=0:=by simpa using h2
    refine⟨by omega,by omega,fun j hj=>?_⟩;have g:=anyF_false.1 h3 j (Nat.zero_le _) (by omega);unfold badA at g;rw[AI]at g;have g1:((r.R j 0).n:Int)=(r.n:Int):=by simpa using g.1
    exact⟨by omega,g.2⟩
   ·rw[h3]at h;exact absurd h (by simp)
  ·rw[h2]at h;exact absurd h (by simp)
 ·rw[h1]at h;exact absurd h (by simp)
theorem den_vlu{c:Row->Int->Bool}{b:Row->Int->Bool}(hv:Den Tryz.prog 81 (FAs c b))(hb:∀(a:Row)(n:Nat),b a (n:Int)=true->a.n=n∧∀i,i<n->0<=a.I i 0∧a.I i 0<(n:Int)):
  Den Tryz.prog 36 (FVl (vluC c) (vluO b) (vluE b)):=evF_den (CVl_ok hv) fun ds rs h=>by
 unfold FVl at h;split at h
 ·rename_i r a;simp only[A5,A6]at h;obtain⟨h0,rfl⟩:=h;unfold vluC at h0;rw[A2]at h0;obtain⟨g1,g2⟩:=h0;refine(uVl c b r a).trans ?_;refine br_g (show asgC (winOf r 0 r.n)=true from g1) ?_;show br (asgE r !=0) (some [D.v (i64 0),D.v (i64 (asgE r))]) _=_;unfold vluO vluE;cases h1:asgE r !=0
  ·rw[br_false];refine br_g (show c (winOf a 0 a.n) (r.n:Int)=true from g2) ?_;show br (!b (win0 a) (r.n:Int)) _ _=_;cases h2:b (win0 a) (r.n:Int)
   ·rfl
   ·have ha:asgE r=0:=by simpa using h1
    obtain⟨a1,a2,a3⟩:=asgE_zero ha;obtain⟨b1,b2⟩:=hb _ _ h2;have b1:a.n=r.n:=b1;refine br_g (A4 ⟨by show a.n<=_;omega,by show a.n<=r.n;omega,fun i hi=>?_⟩) rfl;have hi:i<a.n:=hi;have:=b2 i (by omega);show 0<=a.I i 0∧a.I i 0<((r.R i 0).n:Int);rw[(a3 i (by omega)).1];exact this
  ·rfl
 ·cases h
end Go.Proofs.YtkcnkimndhgkgaaGreatDoor
namespace Go.Proofs
open Go.Shelf
def Tryz.lays189_ren:Go.Shelf.Ren:=⟨fun|189=>165|125=>185|257=>197|128=>217|129=>218|294=>230|295=>231|296=>232|297=>233|298=>234|299=>235|216=>236|300=>237|301=>238|328=>255|329=>247|330=>248|331=>256|332=>257|215=>258|343=>263|n=>n,fun|28=>35|3=>3|46=>192|0=>0|51=>254|53=>225|4=>4|183=>281|182=>280|131=>285|5=>5|9=>9|218=>308|222=>312|228=>322|229=>323|n=>n,fun|n=>n⟩
theorem Tryz.lays189:Go.Proofs.Lays.n189 Tryz.prog Tryz.lays189_ren:={
 mixed:=by kernel_rfl
 f125:=Tryz.func185.trans (congrArg some (by kernel_rfl))
 f128:=Tryz.func217.trans (congrArg some (by kernel_rfl))
 f129:=Tryz.func218.trans (congrArg some (by kernel_rfl))
 f189:=Tryz.func165.trans (congrArg some (by kernel_rfl))
 f215:=Tryz.func258.trans (congrArg some (by kernel_rfl))
 f216:=Tryz.func236.trans (congrArg some (by kernel_rfl))
 f257:=Tryz.func197.trans (congrArg some (by kernel_rfl))
 f294:=Tryz.func230.trans (congrArg some (by kernel_rfl))
 f295:=Tryz.func231.trans (congrArg some (by kernel_rfl))
 f296:=Tryz.func232.trans (congrArg some (by kernel_rfl))
 f297:=Tryz.func233.trans (congrArg some (by kernel_rfl))
 f298:=Tryz.func234.trans (congrArg some (by kernel_rfl))
 f299:=Tryz.func235.trans (congrArg some (by kernel_rfl))
 f300:=Tryz.func237.trans (congrArg some (by kernel_rfl))
 f301:=Tryz.func238.trans (congrArg some (by kernel_rfl))
 f328:=Tryz.func255.trans (congrArg some (by kernel_rfl))
 f329:=Tryz.func247.trans (congrArg some (by kernel_rfl))
 f330:=Tryz.func248.trans (congrArg some (by kernel_rfl))
 f331:=Tryz.func256.trans (congrArg some (by kernel_rfl))
 f332:=Tryz.func257.trans (congrArg some (by kernel_rfl))
 f343:=Tryz.func263.trans (congrArg some (by kernel_rfl))
 t0:=Tryz.underlying0
 a0:=Tryz.isAgg0
 z0:=Tryz.sizeOf0
 v0:=Tryz.zeroValue0
 t3:=Tryz.underlying3
 a3:=Tryz.isAgg3
 z3:=Tryz.sizeOf3
 v3:=Tryz.zeroValue3
 t4:=Tryz.underlying4
 a4:=Tryz.isAgg4
 z4:=Tryz.sizeOf4
 v4:=Tryz.zeroValue4
 t5:=Tryz.underlying5
 a5:=Tryz.isAgg5
 z5:=Tryz.sizeOf5
 v5:=Tryz.zeroValue5
 t9:=Tryz.underlying9
 a9:=Tryz.isAgg9
 z9:=Tryz.sizeOf9
 v9:=Tryz.zeroValue9
 t28:=Tryz.underlying35
 a28:=Tryz.isAgg35
 z28:=Tryz.sizeOf35
 v28:=Tryz.zeroValue35
 t46:=Tryz.underlying192
 a46:=Tryz.isAgg192
 z46:=Tryz.sizeOf192
 v46:=Tryz.zeroValue192
 t51:=Tryz.underlying254
 a51:=Tryz.isAgg254
 z51:=Tryz.sizeOf254
 v51:=Tryz.zeroValue254
 t53:=Tryz.underlying225
 a53:=Tryz.isAgg225
 z53:=Tryz.sizeOf225
 v53:=Tryz.zeroValue225
 t131:=Tryz.underlying285
 a131:=Tryz.isAgg285
 z131:=Tryz.sizeOf285
 v131:=Tryz.zeroValue285
 t182:=Tryz.underlying280
 a182:=Tryz.isAgg280
 z182:=Tryz.sizeOf280
 v182:=Tryz.zeroValue280
 t183:=Tryz.underlying281
 a183:=Tryz.isAgg281
 z183:=Tryz.sizeOf281
 v183:=Tryz.zeroValue281
 t218:=Tryz.underlying308
 a218:=Tryz.isAgg308
 z218:=Tryz.sizeOf308
 v218:=Tryz.zeroValue308
 t222:=Tryz.underlying312
 a222:=Tryz.isAgg312
 z222:=Tryz.sizeOf312
 v222:=Tryz.zeroValue312
 t228:=Tryz.underlying322
 a228:=Tryz.isAgg322
 z228:=Tryz.sizeOf322
 v228:=Tryz.zeroValue322
 t229:=Tryz.underlying323
 a229:=Tryz.isAgg323
 z229:=Tryz.sizeOf323
 v229:=Tryz.zeroValue323}
open Go.Sort Go.RowKit in
theorem Tryz.slices_Sort_int(blk off cap:Nat)(zs:List Int)(w:World)(hH:Holds (Value.int .i64) w blk off zs.toArray)(hblk:blk<w.heap.size)(hsz:zs.length<4611686018427387904):
  Calls Tryz.prog 165 #[.slice (some ⟨blk,off,none⟩) zs.length cap] w fun e w'=>
   e=.returned (.tuple #[])∧∃n os,w'=grow (putRow (Value.int .i64) (Sort.ahead w n) blk off (zs.mergeSort fun x y=>decide (x<=y)).toArray) os:=Any.slices_Sort_int Tryz.lays189 blk off cap zs w hH hblk hsz
open Go.RowKit Go.Sort in
theorem Tryz.slices_Sort_int_none(p:Option Addr)(cap:Nat)(w:World):
  Calls Tryz.prog 165 #[.slice p 0 cap] w fun e w'=>e=.returned (.tuple #[])∧w'=w:=Any.slices_Sort_int_none Tryz.lays189 p cap w
end Go.Proofs
namespace Go.Proofs.YtkcnkimndhgkgaaGreatDoor
open Go.Ev Go.RowKit Go.Sort
set_option maxRecDepth 100000
def Hid2(p:Prop):Prop:=p
def le2(x y:Int):Bool:=x<=y
set_option maxHeartbeats 1000000 in
theorem values_walk(a:Option Addr)(len cap:Nat)(w:World):Calls Tryz.prog 132 #[.slice a len cap] w fun e w'=>e=.returned (.func (.func 166) #[] #[.pointer (some ⟨w.heap.size,0,none⟩)])∧w'=w.alloc (.cells #[.slice a len cap] 35):=by
 go_enter Tryz.func132,Tryz.ntmps132
 go_wp2
 go_ret
 exact⟨rfl,rfl⟩
set_option maxHeartbeats 1000000 in
theorem collect_walk(Bs:Nat)(sv:Value)(len:Nat)(z:Nat->Int)(hlen:len<=1000000)(w:World)(hBs:Bs<w.heap.size)(hcs:w.cell? ⟨Bs,0,none⟩=some sv)(hI:Nums w.heap.size w sv len z):
  Calls Tryz.prog 164 #[.func (.func 166) #[] #[.pointer (some ⟨Bs,0,none⟩)]] w fun e W'=>∃v,e=.returned v∧W'.ownsRow w.heap.size 3 1 v len ((upto z len).map (Value.int .i64))∧(v=.slice none 0 0↔len=0)∧Below w.heap.size w W':=by
 go_enter Tryz.func164,Tryz.ntmps164
 go_wp2_with (first|(go_at_call 196;refine((callsIn_wide (n:=3)).1 (appSeq_in Fence.wide 3 trivial trivial rfl (by omega) Bs sv len z hlen w hBs hcs hI)).mono ?_))
 rintro e w' ⟨v,rfl,hrow,hnil,hb⟩
 go_wp2
 go_ret
 exact⟨v,rfl,hrow,hnil,hb⟩
theorem sort_len(l:List Int):(l.mergeSort le2).length=l.length:=(List.mergeSort_perm l le2).length_eq
set_option maxHeartbeats 1000000 in
theorem sorted_walk(Bs:Nat)(sv:Value)(len:Nat)(z:Nat->Int)(hlen:len<=1000000)(w:World)(hBs:Bs<w.heap.size)(hcs:w.cell? ⟨Bs,0,none⟩=some sv)(hI:Nums w.heap.size w sv len z):
  Calls Tryz.prog 131 #[.func (.func 166) #[] #[.pointer (some ⟨Bs,0,none⟩)]] w fun e W'=>∃a cap b,e=.returned (.slice a len cap)∧(0<len->a=some ⟨b,0,none⟩)∧(∀j,j<len->W'.cell? ⟨b,j,none⟩=some (.int .i64 (((upto z len).mergeSort le2).getD j 0)))∧Below w.heap.size w W':=by
 go_enter Tryz.func131,Tryz.ntmps131
 go_wp2_with (first|(go_at_call 164;refine(collect_walk Bs sv len z hlen w hBs hcs hI).mono ?_))
 rintro e W ⟨v,rfl,hrow,hnil,hb⟩;by_cases h0:len=0
 ·subst h0;obtain rfl:=hnil.2 rfl
  go_wp2_with (first|(go_at_call 165;refine(Tryz.slices_Sort_int_none none 0 W).mono ?_))
  rintro e w' ⟨rfl,rfl⟩
  go_wp2
  go_ret
  exact⟨none,0,0,rfl,fun h=>by omega,fun j hj=>by omega,hb⟩
 ·rcases hrow.2 with⟨rfl,hz⟩|⟨gb,cap,cur,rfl,hbase,hgb,r1,r2,r3,r4⟩
  ·exact absurd (hnil.1 rfl) h0
  ·have hul:(upto z len).length=len:=upto_length z len;have hH:Holds (Value.int .i64) W gb 0 (upto z len).toArray:=holds_of_blockI hgb (by rw[hul];simpa using r4);have hgl:gb<W.heap.size:=(A1.1 hgb).1;have cS:=Tryz.slices_Sort_int gb 0 cap (upto z len) W hH hgl (by omega);rw[hul]at cS
   go_wp2_with (first|(go_at_call 165;refine cS.mono ?_))
   rintro e w' ⟨rfl,nn,os,rfl⟩
   go_wp2
   go_ret
   have hrow2:=ownsRow_sortedI (n:=nn) (os:=os) (ss:=upto z len) (ts:=(upto z len).mergeSort le2) (sort_len _) hbase hgb (by omega) r2 r3;refine⟨_,cap,gb,rfl,fun _=>rfl,fun j hj=>?_,hb.grown (grownBy_sortedI _) hb.size (fun k hk=>by cases hk;exact hbase)⟩;have hj2:j<((upto z len).mergeSort le2).length:=by rw[sort_len,hul];exact hj
   have h9:=hrow2.cells (g:=gb) rfl j (.int .i64 (((upto z len).mergeSort le2).getD j 0)) (by
    rw[List.getElem?_map,AK hj2,List.getD_eq_getElem?_getD,AK hj2];rfl)
   have e9:(⟨gb,0,none⟩:Addr).add j=⟨gb,j,none⟩:=by rw[Addr.add_lit,AE]
   rw[e9]at h9;exact h9
def asB(l:List Int)(n:Int):Bool:= !anyF (fun j=>((l.mergeSort le2).getD j 0) !=(j:Int)) l.length 0&&((l.length:Int)==n)
set_option maxHeartbeats 2000000 in
theorem assignment_walk(a:Option Addr)(b off len cap:Nat)(z:Nat->Int)(n:Int)(hlen:len<=1000000)(w:World)(ha:0<len->a=some ⟨b,off,none⟩∧b<w.heap.size)(hc:∀j,j<len->w.cell? ⟨b,off+j,none⟩=some (.int .i64 (z j))):
  Calls Tryz.prog 81 #[.slice a len cap,.int .i64 n] w fun e w'=>e=.returned (.bool (asB (upto z len) n))∧Below w.heap.size w w':=by
 have hb0:Below w.heap.size w (w.alloc (.cells #[.slice a len cap] 35)):=(Below.refl _ w).alloc (AC _) _;have hsz:(w.alloc (.cells #[.slice a len cap] 35)).heap.size=w.heap.size+1:=by simp
 have hnew:(w.alloc (.cells #[.slice a len cap] 35)).heap[w.heap.size]? =some (.cells #[.slice a len cap] 35 (0,0)):=by
  show(w.heap.push _)[w.heap.size]? =_;simp
 have hcell:(w.alloc (.cells #[.slice a len cap] 35)).cell? ⟨w.heap.size,0,none⟩=some (.slice a len cap):=by
  simp only[World.cell?,hnew];rfl
 have hN:Nums (w.alloc (.cells #[.slice a len cap] 35)).heap.size (w.alloc (.cells #[.slice a len cap] 35)) (.slice a len cap) len z:=
  ⟨a,cap,b,off,rfl,fun h=>⟨(ha h).1,by have:=(ha h).2;omega⟩,fun j hj=>(hb0.cell (p:=⟨b,off+j,none⟩) (ha (by omega)).2).trans (hc j hj)⟩
 go_enter Tryz.func81,Tryz.ntmps81
 have hS:=sorted_walk w.heap.size (.slice a len cap) len z hlen _ (by omega) hcell hN;have hS2:Calls Tryz.prog 131 #[.func (.func 166) #[] #[.pointer (some ⟨w.heap.size,0,none⟩)]] (w.alloc (.cells #[.slice a len cap] 35)) fun e w'=>∃a2 cap2 b2,e=.returned (.slice a2 len cap2)∧(0<len->a2=some ⟨b2,0,none⟩)∧(∀j,j<len->w'.cell? ⟨b2,j,none⟩=some (.int .i64 (((upto z len).mergeSort le2).getD j 0)))∧Below w.heap.size w w':=hS.mono fun e w' ⟨a2,cap2,b2,h1,h2,h3,h4⟩=>⟨a2,cap2,b2,h1,h2,h3,hb0.trans (h4.mono (by omega))⟩;clear hS hcell hN hb0 ha hc hsz;have hul:(upto z len).length=len:=upto_length z len;obtain⟨q,hq⟩:∃q:Nat->Int,∀j,((upto z len).mergeSort le2).getD j 0=q j:=⟨_,fun _=>rfl⟩;have hqa:Hid2 (asB (upto z len) n=(!anyF (fun j=>q j !=(j:Int)) len 0&&((len:Int)==n))):=by
  show _=_;unfold asB;rw[hul]
  congr 2
  exact anyF_congr fun i _ _=>by rw[hq]
 simp only[hq]at hS2;clear hq hul
 go_wp2_with (first|(go_at_call 132;refine(values_walk a len cap w).mono ?_;rintro e w1 ⟨rfl,rfl⟩)|(go_at_call 131;refine hS2.mono ?_;rintro e w2 ⟨a2,cap2,b2,rfl,ha2,hc2,hB⟩))
 clear hS2 hnew;have hB2:Hid2 (Below w.heap.size w w2):=hB;clear hB
 go_loopw [13] (fun i wr=>∃k:Nat,i=.int .i64 k∧k<=len∧wr=w2∧∀j,j<k->q j=(j:Int)) (fun i _=>len-(RowKit.intOf i).toNat)
 case atStart=>exact⟨0,rfl,Nat.zero_le _,rfl,fun j hj=>by omega⟩
 case round=>
  obtain⟨k,rfl,hk,rfl,hall⟩:=hrel;have hall2:Hid2 (∀j,j<k->q j=(j:Int)):=hall;clear hall;by_cases hp:k<len
  ·have ha2':=ha2 (by omega);subst ha2';have hcx:=hc2 k hp;clear hc2 ha2;by_cases he:q k=(k:Int)
   ·have he2:Hid2 (q k=(k:Int)):=he;rw[he]at hcx;clear he
    go_wp2
    go_roundw
    case rel=>
     refine⟨k+1,by go_num,by omega,by first|rfl|trivial,fun j hj=>?_⟩
     by_cases hjk:j=k
     ·subst hjk;exact he2
     ·exact hall2 j (by omega)
    case measure=>simp[RowKit.intOf];omega
   ·have hfal:Hid2 (asB (upto z len) n=false):=by
     show _=_;rw[show _=_ from hqa,anyF_iff.2 ⟨k,Nat.zero_le _,by omega,by simpa using he⟩];rfl
    have he3:(q k==(k:Int))=false:=by simpa using he
    clear hqa hall2;generalize q k=x at hcx he3 he
    go_wp2
    go_ret
    exact⟨by rw[show asB (upto z len) n=false from hfal];rfl,hB2⟩
  ·obtain rfl:k=len:=by omega
   have htr:Hid2 (asB (upto z k) n=((k:Int)==n)):=by
    show _=_;rw[show _=_ from hqa,anyF_false.2 (fun i _ hi=>by simpa using hall2 i (by omega))];rfl
   clear hqa hall2
   go_wp2
   go_ret
   exact⟨by rw[show asB (upto z k) n=((k:Int)==n)from htr];rfl,hB2⟩
theorem row_arg{mem:List (Option Blk)}{ρ:Ev.Map}{B N id:Nat}{w:World}{ks:List CK}{r:Row}{y:Value}(hm:MemR mem ρ B w)(hid:mem[id]? =some (some (.row ks false r)))(hy:V ρ N (.slice (some ⟨id,0,some 0⟩) r.n 0) y):
  ∃a cap b off,y=.slice a r.n cap∧(0<r.n->a=some ⟨b,off,none⟩∧b<w.heap.size)∧∃v:Nat->Nat->Value,(∀e j k,e<r.n->ks[j]? =some k->w.cell? ⟨b,off+e*ks.length+j,none⟩=some (v e j))∧∀e j k,e<r.n->ks[j]? =some k->CellR (Ev.okB mem ρ w) w k r e j (v e j):=by
 obtain⟨L,hL,hn,hz,_,hrd,_⟩:=hm.blk id _ hid;cases hy with
 |sliceDead _ h2=>rw[hL]at h2;cases h2
 |@slice _ _ _ M a cap _ h2 h3 h4 h5 h6=>
  have hML:M=L:=by rw[hL]at h2;cases h2;rfl
  subst hML;refine⟨a,cap,M.b,M.off,rfl,fun h=>⟨?_,((hrd h).1 rfl).1⟩,?_⟩
  ·rw[h5 h];show some (Loc.adr M 0 0)=_;unfold Loc.adr;rw[Nat.zero_mul,Nat.add_zero]
  ·by_cases hpos:0<r.n
   ·obtain⟨_,hr⟩:=hrd hpos;cases hr with
    |mk v g1 g2=>exact⟨v,g1,g2⟩
   ·exact⟨fun _ _=>unk,fun e j k he=>by omega,fun e j k he=>by omega⟩
theorem int_cell{ok:Nat->Prop}{w:World}{k:IntKind}{r:Row}{e j:Nat}{y:Value}(h:CellR ok w (.int k) r e j y):y=.int k (r.I e j):=by cases h;rfl
theorem V_int{ρ:Ev.Map}{N:Nat}{k:IntKind}{n:Int}{y:Value}(h:V ρ N (.int k n) y):y=.int k n:=by cases h;rfl
theorem mem_nil(B:Nat)(w:World):MemR [] (fun _=>none) B w:=⟨fun id b h=>by simp at h,fun _ _=>rfl,fun i j b h=>by obtain⟨_,_,h1,_⟩:=h;cases h1⟩
def insI(x:Int):List Int->List Int
 |[]=>[x]
 |y::l=>if x<=y then x::y::l else y::insI x l
def isort:List Int->List Int
 |[]=>[]
 |x::l=>insI x (isort l)
theorem insI_perm(x:Int):∀l,(insI x l).Perm (x::l)
 |[]=>.refl _
 |y::l=>by
  unfold insI;by_cases h:x<=y
  ·rw[AM h]
  ·rw[AL h];exact((insI_perm x l).cons y).trans (.swap x y l)
theorem isort_perm:∀l,(isort l).Perm l
 |[]=>.refl _
 |x::l=>(insI_perm x (isort l)).trans ((isort_perm l).cons x)
theorem insI_sorted(x:Int):∀l:List Int,l.Pairwise (· <= ·)->(insI x l).Pairwise (· <= ·)
 |[],_=>by simp[insI]
 |y::l,h=>by
  have h':=List.pairwise_cons.1 h;unfold insI;by_cases hx:x<=y
  ·rw[AM hx];refine List.pairwise_cons.2 ⟨fun z hz=>?_,h⟩;rcases A8.1 hz with rfl|hz
   ·exact hx
   ·have:=h'.1 z hz;omega
  ·rw[AL hx];refine List.pairwise_cons.2 ⟨fun z hz=>?_,insI_sorted x l h'.2⟩;rcases A8.1 ((insI_perm x l).mem_iff.1 hz)with rfl|hz
   ·omega
   ·exact h'.1 z hz
theorem isort_sorted:∀l,(isort l).Pairwise (· <= ·)
 |[]=>.nil
 |x::l=>insI_sorted x (isort l) (isort_sorted l)
theorem sorted_eq:∀{l1 l2:List Int},l1.Perm l2->l1.Pairwise (· <= ·)->l2.Pairwise (· <= ·)->l1=l2
 |[],l2,h,_,_=>(List.nil_perm.1 h).symm
 |x::l1,[],h,_,_=>absurd h.length_eq (by simp)
 |x::l1,y::l2,h,h1,h2=>by
  have a1:=List.pairwise_cons.1 h1;have a2:=List.pairwise_cons.1 h2;have m1:x∈y::l2:=h.mem_iff.1 (List.mem_cons_self ..);have m2:y∈x::l1:=h.mem_iff.2 (List.mem_cons_self ..);have e:x=y:=by
   rcases A8.1 m1 with e|m1
   ·exact e
   ·rcases A8.1 m2 with e|m2
    ·exact e.symm
    ·have:=a1.1 y m2;have:=a2.1 x m1;omega
  subst e;rw[sorted_eq ((List.perm_cons x).1 h) a1.2 a2.2]
theorem sort_eq(l:List Int):l.mergeSort le2=isort l:=by
 refine sorted_eq ((List.mergeSort_perm _ _).trans (isort_perm l).symm) ?_ (isort_sorted l);have h:=List.pairwise_mergeSort (le:=le2) (fun a b c h1 h2=>by simp only[le2,A3]at*;omega) (fun a b=>by simp only[le2,Bool.or_eq_true,A3];omega) l;exact h.imp (fun h=>by simpa [le2]using h)
def asgB2(a:Row)(n:Int):Bool:= !anyF (fun j=>((isort (upto (fun j=>a.I j 0) a.n)).getD j 0) !=(j:Int)) a.n 0&&((a.n:Int)==n)
theorem asgB2_eq(a:Row)(n:Int):asgB2 a n=asB (upto (fun j=>a.I j 0) a.n) n:=by
 unfold asgB2 asB;rw[sort_eq,upto_length]
theorem den_asn:Den Tryz.prog 81 (FAs (fun a _=>decide (a.n<=1000000)) asgB2):=by
 intro wb ds rs hF w hbw args vs mem ρ hfrom hm hl hva;unfold FAs at hF;split at hF
 ·rename_i a n;simp only[A5,A6,A3]at hF;obtain⟨h0,rfl⟩:=hF;have e1:vs=[S_ 0 0 a.n,.int .i64 n]∧mem=[some (.row [.int .i64] false a)]:=by
   have:fromDs false [D.slice [.int .i64] a,D.v (.int .i64 n)] []=some ([S_ 0 0 a.n,.int .i64 n],[some (.row [.int .i64] false a)]):=rfl;rw[this]at hfrom;simp only[A5,A6]at hfrom;exact⟨hfrom.1.symm,hfrom.2.symm⟩
  obtain⟨rfl,rfl⟩:=e1
  match args,hl with
  |[a1,a2],_=>
  have v1:=hva 0 _ _ rfl rfl;have e2:=V_int (hva 1 _ _ rfl rfl);subst e2;obtain⟨ad,cap,b,off,rfl,hb,v,q1,q2⟩:=row_arg (ks:=[.int .i64]) (r:=a) hm rfl v1;refine(assignment_walk ad b off a.n cap (fun j=>a.I j 0) n h0 w hb (fun j hj=>?_)).mono fun e w' ⟨he,hb'⟩=>?_
  ·have:=q1 j 0 _ hj rfl;rw[int_cell (q2 j 0 _ hj rfl)]at this;rw[<-this];show w.cell? _=w.cell? ⟨b,off+j*1+0,none⟩;rw[Nat.mul_one,Nat.add_zero]
  ·rw[<-asgB2_eq a n]at he;exact⟨_,he,hb',[.bool _],[],fun _=>none,rfl,mem_nil _ _,.bool⟩
 ·cases hF
theorem upto_mem{z:Nat->Int}{n i:Nat}(h:i<n):z i∈upto z n:=List.mem_map.2 ⟨i,List.mem_range.2 h,rfl⟩
theorem asgB2_ok(a:Row)(n:Nat)(h:asgB2 a (n:Int)=true):a.n=n∧∀i,i<n->0<=a.I i 0∧a.I i 0<(n:Int):=by
 rw[asgB2_eq]at h;unfold asB at h;rw[A2,Bool.not_eq_true',beq_iff_eq,upto_length]at h;obtain⟨h1,h2⟩:=h;have hn:a.n=n:=by omega
 refine⟨hn,fun i hi=>?_⟩;have h3:=upto_mem (z:=fun j=>a.I j 0) (n:=a.n) (i:=i) (by omega);have h4:a.I i 0∈(upto (fun j=>a.I j 0) a.n).mergeSort le2:=(List.mergeSort_perm _ _).mem_iff.2 h3;obtain⟨j,hj,he⟩:=List.getElem_of_mem h4;have hjn:j<a.n:=by rw[sort_len,upto_length]at hj;exact hj
 have h5:=anyF_false.1 h1 j (Nat.zero_le _) (by omega);rw[List.getD_eq_getElem?_getD,AK hj,Option.getD_some,he]at h5;have h6:a.I i 0=(j:Int):=by simpa using h5
 omega
theorem den_vl:Den Tryz.prog 36 (FVl (vluC (fun a _=>decide (a.n<=1000000))) (vluO asgB2) (vluE asgB2)):=den_vlu den_asn asgB2_ok
theorem den_rv:Den Tryz.prog 45 (FRv (rvlC (vluC (fun a _=>decide (a.n<=1000000)))) (rvlE (vluE asgB2))):=den_rvl den_vl
end Go.Proofs.YtkcnkimndhgkgaaGreatDoor
namespace Go.Proofs.YtkcnkimndhgkgaaGreatDoor
open Go.Ev Go.Lib Go.RowKit
def nuL(x:Nat->Int):Nat->List UInt8
 |0=>[]
 |n+1=>nuL x n++(32::itoa (x n))
theorem nuL_len{x:Nat->Int}(h:∀j,iR (x j)=true):∀n,(nuL x n).length<=n*22
 |0=>Nat.zero_le _
 |n+1=>by
  have h1:=nuL_len h n;have h2:=itoa_len (h n);show(nuL x n++(32::itoa (x n))).length<=_;rw[AG,List.length_cons];omega
theorem grow_others{w:World}(k:Nat)(os:Array Obj)(b:Option Nat):Lib.OthersKept 5 b w (Go.Sort.grow (w.drewN k) os):=fun g o h _ _=>by
 show(w.heap++os)[g]? =_;have hlt:g<w.heap.size:=by
  rcases Nat.lt_or_ge g w.heap.size with h'|h'
  ·exact h'
  ·rw[Array.getElem?_eq_none h']at h;cases h
 rw[Array.getElem?_append_left hlt];exact h
theorem itoa_k(b:Nat)(n:Int)(h:iR n=true):∃s:ByteArray,by_ s=itoa n∧s.size<=21∧∀w,Wd w->Calls Tryz.prog 112 #[.int .i64 n] w fun e w'=>e=.returned (.string s)∧Below w.heap.size w w'∧Lib.OthersKept 5 (some b) w w':=by
 obtain⟨h1,h2⟩:=iR_iff.1 h;refine⟨txt (itoa n),by_txt _,by rw[txt_size];exact itoa_len h,fun w hw=>(Tryz.strconv_Itoa n h1 h2 w hw.pow).mono ?_⟩;rintro e w' ⟨he,k,os,rfl⟩;exact⟨he,grow_below w k os,grow_others k os _⟩
def Hid(p:Prop):Prop:=p
set_option maxHeartbeats 4000000 in
set_option maxRecDepth 1000000 in
theorem ints_walk(B b:Nat)(L:List UInt8)(word:ByteArray)(a:Option Addr)(g off n cap:Nat)(x:Nat->Int)(w:World)(hW:∀w',Below B w w'->Wd w')(hI:Lib.IsBuilderF 117 5 B b (Lib.byteCells L) w)(hB:B<=w.heap.size)
  (ha:0<n->a=some ⟨g,off,none⟩) (hx:∀j,iR (x j)=true) (hl:∀w',Below B w w'->Lib.OthersKept 5 (some b) w w'->∀j,j<n->w'.cell? ⟨g,off+j,none⟩=some (.int .i64 (x j)))
  (hlen:L.length+word.size+n*22<=1000000000000):
  Calls Tryz.prog 55 #[.pointer (some ⟨b,0,none⟩),.string word,.slice a n cap] w fun e w'=>e=.returned (.tuple #[])∧Lib.IsBuilderF 117 5 B b (Lib.byteCells (L++by_ word++nuL x n++[10])) w'∧Below B w w'∧Lib.OthersKept 5 (some b) w w':=by
 have mx:Tryz.prog.follows .mixedOrders=true:=mixed
 go_enter Tryz.func55,Tryz.ntmps55
 go_wp2_with (first|(go_at_call 52;refine(wr_write B b L word _ hI ?_ hB).mono ?_))
 ·omega
 rintro e w1 ⟨rfl,hI1,hb1,hk1⟩
 go_wp2
 go_loopw [15] (fun i wr=>∃k:Nat,i=.int .i64 k∧k<=n∧Lib.IsBuilderF 117 5 B b (Lib.byteCells (L++by_ word++nuL x k)) wr∧Below B w wr∧Lib.OthersKept 5 (some b) w wr) (fun i _=>n-(RowKit.intOf i).toNat)
 case atStart=>
  exact⟨0,rfl,Nat.zero_le _,by simpa [nuL]using hI1,hb1,hk1⟩
 case round=>
  obtain⟨k,rfl,hk,hI2,hb2,hk2⟩:=hrel;by_cases hp:k<n
  ·have ha':=ha (by omega);subst ha';have hc:=hl _ hb2 hk2 k hp;obtain⟨i0,i1⟩:=iR_iff.1 (hx k)
   go_wp2
   have hle:(L++by_ word++nuL x k).length<=2000000000000:=by
    have h1:=nuL_len hx k;have h3:k*22<=n*22:=AH _ hk;have h4:(by_ word).length=word.size:=(size_by word).symm;rw[AG,AG];omega
   have hId:Lib.IsBuilderF 117 5 B b (Lib.byteCells (L++by_ word++nuL x k)) wr.drew:=hI2;obtain⟨s,hs1,hs2,hs3⟩:=itoa_k b (x k) (hx k);obtain⟨Cq,hq1,hq2⟩:∃Cq:World->Prop,(∀v,Cq v->Below B w v∧Lib.OthersKept 5 (some b) w v∧Lib.IsBuilderF 117 5 B b (Lib.byteCells (L++by_ word++nuL x k)) v)∧(∀v,Below B w v->Lib.OthersKept 5 (some b) w v->Lib.IsBuilderF 117 5 B b (Lib.byteCells (L++by_ word++nuL x k)) v->Cq v):=⟨fun v=>Below B w v∧Lib.OthersKept 5 (some b) w v∧Lib.IsBuilderF 117 5 B b (Lib.byteCells (L++by_ word++nuL x k)) v,fun _ h=>h,fun _ h1 h2 h3=>⟨h1,h2,h3⟩⟩;refine wp_region_quiet_tail (C:=Cq) 6 mx (by kernel_rfl) (hq2 wr.drew (Below.drew hb2) hk2.drew hId) ?_;have hcall:∀v,Cq v->Calls Tryz.prog 112 #[.int .i64 (x k)] v fun e w'=>e=.returned (.string s)∧Cq w':=fun v hv=>by
    obtain⟨g1,g2,g3⟩:=hq1 v hv;refine(hs3 v (hW v g1)).mono ?_;rintro e w' ⟨he,hb3,hk3⟩;exact⟨he,hq2 _ (g1.trans (hb3.mono (Nat.le_trans hB g1.size))) (g2.trans hk3) (g3.below hb3)⟩
   dsimp only[List.take,List.drop];have hq:Hid (∀v,Cq v->Below B w v∧Lib.OthersKept 5 (some b) w v∧Lib.IsBuilderF 117 5 B b (Lib.byteCells (L++by_ word++nuL x k)) v):=hq1;have hcl:Hid (∀v,Cq v->Calls Tryz.prog 112 #[.int .i64 (x k)] v fun e w'=>e=.returned (.string s)∧Cq w'):=hcall;clear hq1 hq2 hcall;refine wpQuiet_step (fun K hK=>?_)
   go_simp
   refine⟨_,fun v hv=>rfl,hK _ ?_⟩;clear hK K;refine wpQuiet_step (fun K hK=>?_)
   go_simp
   refine⟨_,fun v hv=>rfl,hK _ ?_⟩;clear hK K;refine wpQuiet_step (fun K hK=>?_)
   go_simp
   refine⟨_,fun v hv=>rfl,hK _ ?_⟩;clear hK K;refine wpQuiet_step (fun K hK=>?_)
   go_simp
   refine⟨_,fun v hv=>rfl,hK _ ?_⟩;clear hK K;refine wpQuiet_step (fun K hK=>?_)
   go_simp
   refine⟨.string s,fun v hv=>(show∀v,Cq v->Calls Tryz.prog 112 #[.int .i64 (x k)] v fun e w'=>e=.returned (.string s)∧Cq w' from hcl) v hv,hK _ ?_⟩;clear hK K;refine wpQuiet_step (fun K hK=>?_)
   go_simp
   refine⟨.string (ByteArray.mk #[32]++s),fun v hv=>?_,hK _ ?_⟩
   ·rw[AL (show¬9223372036854775807<1+s.size by omega)];exact⟨rfl,rfl⟩
   clear hK K;refine wpQuiet_nil ?_;intro w5 h5;obtain⟨g1,g2,g3⟩:=(show∀v,Cq v->Below B w v∧Lib.OthersKept 5 (some b) w v∧Lib.IsBuilderF 117 5 B b (Lib.byteCells (L++by_ word++nuL x k)) v from hq) w5 h5;have hB5:B<=w5.heap.size:=Nat.le_trans hB g1.size;have hlen5:(L++by_ word++nuL x k).length+(ByteArray.mk #[32]++s).size<=140737488355328:=by
    rw[ByteArray.size_append];show _+(1+_)<=_;omega
   clear hq hcl h5
   go_wp2_with (first|(go_at_call 52;refine(wr_write B b (L++by_ word++nuL x k) _ w5 g3 ?_ hB5).mono ?_))
   ·exact hlen5
   rintro e w6 ⟨rfl,h6,b6,k6⟩
   go_wp2
   go_roundw
   case rel=>
    refine⟨k+1,by go_num,by omega,?_,g1.trans b6,g2.trans k6⟩;have e1:by_ (ByteArray.mk #[32]++s)=32::itoa (x k):=by rw[by_app,hs1];rfl
    rw[e1]at h6;rw[show nuL x (k+1)=nuL x k++(32::itoa (x k))from rfl,<-List.append_assoc];exact h6
   case measure=>
    simp[RowKit.intOf];omega
  ·have hkn:k=n:=by omega
   subst hkn;have hle:(L++by_ word++nuL x k).length<=2000000000000:=by
    have h1:=nuL_len hx k;have h4:(by_ word).length=word.size:=(size_by word).symm;rw[AG,AG];omega
   have hB5:B<=wr.heap.size:=Nat.le_trans hB hb2.size;have hlen5:(L++by_ word++nuL x k).length+(ByteArray.mk #[10]).size<=140737488355328:=by
    show _+1<=_;omega
   clear hl
   go_wp2_with (first|(go_at_call 52;refine(wr_write B b (L++by_ word++nuL x k) _ wr hI2 ?_ hB5).mono ?_))
   ·exact hlen5
   rintro e w6 ⟨rfl,h6,b6,k6⟩
   go_wp2
   go_end0
   exact⟨rfl,h6,hb2.trans b6,hk2.trans k6⟩
structure WrI(w2:World)(b:Nat)(L:List UInt8)(w:World):Prop where
 bel:Below b w2 w
 oth:Lib.OthersKept 5 (some b) w2 w
 bld:Lib.IsBuilderF 117 5 b b (Lib.byteCells L) w
theorem WrI.alloc{w2:World}{b:Nat}{L:List UInt8}{w:World}(h:WrI w2 b L w)(hb:b<=w2.heap.size)(o:Obj):WrI w2 b L (w.alloc o):=
 ⟨h.bel.alloc (Nat.le_trans hb h.bel.size) o,h.oth.alloc o,h.bld.alloc o⟩
theorem WrI.drew{w2:World}{b:Nat}{L:List UInt8}{w:World}(h:WrI w2 b L w):WrI w2 b L w.drew:=⟨Below.drew h.bel,h.oth.drew,h.bld⟩
theorem ints_old{w2:World}{b:Nat}{L:List UInt8}{w:World}(h:WrI w2 b L w)(hW:∀w',Below b w2 w'->Wd w')(hb:b<=w2.heap.size)(word:ByteArray)(a:Option Addr)(g off n cap:Nat)(x:Nat->Int)
  (ha:0<n->a=some ⟨g,off,none⟩) (hx:∀j,iR (x j)=true) (hg:0<n->g<b) (hc:∀j,j<n->w2.cell? ⟨g,off+j,none⟩=some (.int .i64 (x j))) (hlen:L.length+word.size+n*22<=1000000000000):
  Calls Tryz.prog 55 #[.pointer (some ⟨b,0,none⟩),.string word,.slice a n cap] w fun e w'=>e=.returned (.tuple #[])∧WrI w2 b (L++by_ word++nuL x n++[10]) w':=
 (ints_walk b b L word a g off n cap x w (fun w' h'=>hW w' (h.bel.trans h')) h.bld (Nat.le_trans hb h.bel.size) ha hx (fun w' h1 _ j hj=>by
  rw[(h.bel.trans h1).cell (p:=⟨g,off+j,none⟩) (hg (by omega))];exact hc j hj) hlen).mono fun e w' ⟨he,h1,h2,h3⟩=>⟨he,h.bel.trans h2,h.oth.trans h3,h1⟩
theorem ints_new{w2:World}{b:Nat}{L:List UInt8}{w:World}(h:WrI w2 b L w)(hW:∀w',Below b w2 w'->Wd w')(hb:b<=w2.heap.size)(word:ByteArray)(g n cap:Nat)(x:Nat->Int)(cs:Array Value)(fr:Nat×Nat)
  (hx:∀j,iR (x j)=true) (hg:g≠b) (ho:w.heap[g]? =some (.cells cs 3 fr)) (hc:∀j,j<n->cs[j]? =some (.int .i64 (x j))) (hlen:L.length+word.size+n*22<=1000000000000):
  Calls Tryz.prog 55 #[.pointer (some ⟨b,0,none⟩),.string word,.slice (some ⟨g,0,none⟩) n cap] w fun e w'=>e=.returned (.tuple #[])∧WrI w2 b (L++by_ word++nuL x n++[10]) w':=
 (ints_walk b b L word _ g 0 n cap x w (fun w' h'=>hW w' (h.bel.trans h')) h.bld (Nat.le_trans hb h.bel.size) (fun _=>rfl) hx (fun w' _ h2 j hj=>by
  have:=h2 g _ ho (fun e=>hg (by simpa using e)) (fun c fz e=>by cases e);show(match w'.heap[g]? with|_=>_)=_
  rw[AE];rw[Lib.cell_of_heap this];exact hc j hj) hlen).mono fun e w' ⟨he,h1,h2,h3⟩=>⟨he,h.bel.trans h2,h.oth.trans h3,h1⟩
theorem write_I{w2:World}{b:Nat}{L:List UInt8}{w:World}(h:WrI w2 b L w)(hb:b<=w2.heap.size)(s:ByteArray)(hlen:L.length+s.size<=140737488355328):
  Calls Tryz.prog 52 #[.pointer (some ⟨b,0,none⟩),.string s] w fun e w'=>e=.returned (.tuple #[.int .i64 s.size,.nilIface])∧WrI w2 b (L++by_ s) w':=
 (wr_write b b L s w h.bld hlen (Nat.le_trans hb h.bel.size)).mono fun e w' ⟨he,h1,h2,h3⟩=>⟨he,h.bel.trans h2,h.oth.trans h3,h1⟩
def sCake:ByteArray:=⟨⟨[99,97,107,101]⟩⟩
def sGoods:ByteArray:=⟨⟨[103,111,111,100,115]⟩⟩
def sRent:ByteArray:=⟨⟨[114,101,110,116]⟩⟩
def sSettle:ByteArray:=⟨⟨[115,101,116,116,108,101]⟩⟩
theorem others_below{w w':World}(h:Below w.heap.size w w')(b:Option Nat):Lib.OthersKept 5 b w w':=fun k o hk _ _=>by
 have hlt:k<w.heap.size:=by
  rcases Nat.lt_or_ge k w.heap.size with h'|h'
  ·exact h'
  ·rw[Array.getElem?_eq_none h']at hk;cases hk
 rw[h.block k hlt];exact hk
theorem WrI.step{w2:World}{b:Nat}{L:List UInt8}{w w':World}(h:WrI w2 b L w)(hb:b<=w2.heap.size)(h':Below w.heap.size w w'):WrI w2 b L w':=
 ⟨h.bel.trans (h'.mono (Nat.le_trans hb h.bel.size)),h.oth.trans (others_below h' _),h.bld.below h'⟩
noncomputable def CK0:Cx:=mkCx Tryz.prog fns [] []
theorem CK0_ok:CxOk CK0:=mkCx_ok enter mixed (fun p h=>by cases h) (fun l h=>by cases h)
def Fkin:FD
 |[]=>some (true,[.agg [.v (.string sCake),.v (.string sGoods),.v (.string sRent),.v (.string sSettle)]])
 |_=>none
theorem u57:evF CK0 6 53 []=some [.agg [.v (.string sCake),.v (.string sGoods),.v (.string sRent),.v (.string sSettle)]]:=by kernel_rfl
theorem den_kin:Den Tryz.prog 53 Fkin:=evF_den CK0_ok fun ds rs h=>by
 unfold Fkin at h;split at h
 ·cases h;exact u57
 ·cases h
theorem V_str{ρ:Ev.Map}{N:Nat}{s:ByteArray}{y:Value}(h:V ρ N (.string s) y):y=.string s:=by cases h;rfl
theorem kinds_I{w2:World}{b:Nat}{L:List UInt8}{w:World}(h:WrI w2 b L w)(hb:b<=w2.heap.size):Calls Tryz.prog 53 #[] w fun e w'=>e=.returned (.agg #[.string sCake,.string sGoods,.string sRent,.string sSettle])∧WrI w2 b L w':=by
 refine(den_kin w [] _ rfl w (Below.refl _ _) [] [] [] (fun _=>none) rfl (mem_nil _ _) rfl (fun i x c hx=>by simp at hx)).mono fun e w' ⟨cv,he,hb',us,mem',ρ',hf,_,hcv⟩=>?_;have e2:us=[.agg ⟨[.string sCake,.string sGoods,.string sRent,.string sSettle]⟩]:=by
  have:fromDs true [D.agg [.v (.string sCake),.v (.string sGoods),.v (.string sRent),.v (.string sSettle)]] []=some ([.agg ⟨[.string sCake,.string sGoods,.string sRent,.string sSettle]⟩],[]):=rfl;rw[this]at hf;simp only[A5,A6]at hf;exact hf.1.symm
 subst e2;have hcv:V ρ' mem'.length (.agg ⟨[.string sCake,.string sGoods,.string sRent,.string sSettle]⟩) cv:=hcv;refine⟨?_,h.step hb hb'⟩;rw[he];cases hcv with
 |@agg _ cs hs hc=>
  have hcs:cs= #[.string sCake,.string sGoods,.string sRent,.string sSettle]:=by
   have hs':cs.size=4:=hs.symm;apply Array.ext (by rw[hs'];rfl);intro i h1 h2;have hi:i<4:=by omega
   have h3:cs[i]? =some cs[i]:=AJ h1
   match i,hi with
   |0,_=>exact V_str (hc 0 _ _ rfl h3)
   |1,_=>exact V_str (hc 1 _ _ rfl h3)
   |2,_=>exact V_str (hc 2 _ _ rfl h3)
   |3,_=>exact V_str (hc 3 _ _ rfl h3)
  rw[hcs]
end Go.Proofs.YtkcnkimndhgkgaaGreatDoor

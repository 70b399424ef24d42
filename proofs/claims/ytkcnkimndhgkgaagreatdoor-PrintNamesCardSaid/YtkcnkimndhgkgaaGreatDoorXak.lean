/- Part of a proof of a statement of this seat. No conditions. -/
import Derived.Test.YtkcnkimndhgkgaaGreatDoorXaj
import Derived.RangeFuncBox
import Derived.RangeFuncLeaves
import Derived.Shelf.Abstract
import Derived.WalkKit
import Derived.OwnWalkIn
import Derived.TacticsInMore
import Derived.LoopNIn
import Derived.LoopIn
import Derived.Maps.AppendAt
import Derived.Lib.ItoaMem
import Derived.Lib.ParseIntB
import Derived.Lib.IndexMore
import Derived.Lib.ItoaLen
import Derived.Lib.ParseIntBTie
set_option linter.all false
namespace Go.Proofs.YtkcnkimndhgkgaaGreatDoor.Rt
open Go.Ev
set_option maxRecDepth 100000
def u64(n:Int):Value:=.int .u64 n
def uR(n:Int):Bool:=decide (0<=n)&&decide (n<18446744073709551616)
theorem uR_iff{n:Int}:uR n=true↔0<=n∧n<18446744073709551616:=by simp[uR]
def iR(n:Int):Bool:=decide (-9223372036854775808<=n)&&decide (n<9223372036854775808)
theorem iR_iff{n:Int}:iR n=true↔-9223372036854775808<=n∧n<9223372036854775808:=by simp[iR]
theorem wrapU(n:Int):IntKind.u64.wrap n=n%18446744073709551616:=by
 simp[IntKind.wrap,IntKind.signed,IntKind.bits]
theorem wrapI(n:Int):IntKind.i64.wrap n=(n+9223372036854775808)%18446744073709551616-9223372036854775808:=by
 simp only[IntKind.wrap,IntKind.signed,IntKind.bits]
 first|omega|(simp;omega)
theorem wrapU_id{n:Int}(h0:0<=n)(h1:n<18446744073709551616):IntKind.u64.wrap n=n:=by rw[wrapU];omega
theorem andM(a:Int)(h0:0<=a)(h1:a<18446744073709551616):IntKind.u64.wrap ((BitVec.ofInt 64 a&&&BitVec.ofInt 64 4294967295).toNat:Int)=a%4294967296:=by
 obtain⟨n,rfl⟩:∃n:Nat,a=n:=⟨a.toNat,by omega⟩;have hn:n<2^64:=by omega
 rw[BitVec.toNat_and,BitVec.ofInt_natCast,BitVec.toNat_ofNat,Nat.mod_eq_of_lt hn,show(BitVec.ofInt 64 4294967295).toNat=2^32-1 from rfl,Nat.and_two_pow_sub_one_eq_mod];rw[wrapU_id (by omega) (by omega)];omega
theorem shrM(a:Int)(h0:0<=a):a.fdiv (2^32)=a/4294967296:=by
 rw[Int.fdiv_eq_ediv_of_nonneg _ (by decide)];rfl
def gcdI(a b:Int):Int:=(Nat.gcd a.toNat b.toNat:Nat)
theorem gcdI_zero(a:Int)(h:0<=a):gcdI a 0=a:=by
 unfold gcdI;rw[show(0:Int).toNat=0 from rfl,Nat.gcd_zero_right];omega
theorem gcdI_step(a b:Int)(ha:0<=a)(hb:0<b):gcdI a b=gcdI b (a.tmod b):=by
 unfold gcdI;have e:(a.tmod b).toNat=a.toNat%b.toNat:=by
  rw[Int.tmod_eq_emod_of_nonneg ha];obtain⟨n,rfl⟩:∃n:Nat,a=n:=⟨a.toNat,by omega⟩;obtain⟨m,rfl⟩:∃m:Nat,b=m:=⟨b.toNat,by omega⟩;rw[<-Int.natCast_emod];rfl
 rw[e,Nat.gcd_comm b.toNat,Nat.gcd_comm a.toNat,Nat.gcd_rec]
def absI(n:Int):Int:=if n<0 then-n else n
theorem mul_parts(x y:Int)(hx:0<=x)(hx1:x<18446744073709551616)(hy:0<=y)(hy1:y<18446744073709551616):
  ∃p00 p01 p10 p11:Int,p00=(x%4294967296)*(y%4294967296)∧p01=(x%4294967296)*(y/4294967296)∧p10=(x/4294967296)*(y%4294967296)∧p11=(x/4294967296)*(y/4294967296)∧
   (0<=p00∧p00<=18446744065119617025)∧(0<=p01∧p01<=18446744065119617025)∧(0<=p10∧p10<=18446744065119617025)∧(0<=p11∧p11<=18446744065119617025)∧x*y=p11*18446744073709551616+(p10+p01)*4294967296+p00:=by
 have b:∀u v:Int,0<=u->u<=4294967295->0<=v->v<=4294967295->0<=u*v∧u*v<=18446744065119617025:=fun u v h1 h2 h3 h4=>⟨Int.mul_nonneg h1 h3,by
  have:=Int.mul_le_mul h2 h4 h3 (by decide);omega⟩
 refine⟨_,_,_,_,rfl,rfl,rfl,rfl,b _ _ (by omega) (by omega) (by omega) (by omega),b _ _ (by omega) (by omega) (by omega) (by omega),b _ _ (by omega) (by omega) (by omega) (by omega),b _ _ (by omega) (by omega) (by omega) (by omega),?_⟩;have ex:x=(x/4294967296)*4294967296+x%4294967296:=by omega
 have ey:y=(y/4294967296)*4294967296+y%4294967296:=by omega
 generalize x/4294967296=x1 at*
 generalize x%4294967296=x0 at*
 generalize y/4294967296=y1 at*
 generalize y%4294967296=y0 at*
 rw[ex,ey,Int.add_mul,Int.mul_add,Int.mul_add];have h1:x1*4294967296*(y1*4294967296)=x1*y1*18446744073709551616:=by
  rw[Int.mul_assoc,Int.mul_comm 4294967296,Int.mul_assoc y1,<-Int.mul_assoc];rfl
 have h2:x1*4294967296*y0=x1*y0*4294967296:=by rw[Int.mul_assoc,Int.mul_comm 4294967296,<-Int.mul_assoc]
 have h3:x0*(y1*4294967296)=x0*y1*4294967296:=by rw[<-Int.mul_assoc]
 rw[h1,h2,h3,Int.add_mul];omega
noncomputable def C0:Cx:=mkCx Tryz.prog fns [] []
theorem C0_ok:CxOk C0:=mkCx_ok enter mixed (fun p h=>by cases h) (fun l h=>by cases h)
theorem tsize(n:Int):evF C0 6 137 [.v (i64 n)]=br (n<0) (some [.v (.int .u64 (IntKind.u64.wrap (0-IntKind.u64.wrap n)))]) (some [.v (.int .u64 (IntKind.u64.wrap n))]):=by kernel_rfl
theorem tmul(x y:Int):evF C0 6 171 [.v (u64 x),.v (u64 y)]=some [.v (.int .u64 (IntKind.u64.wrap (IntKind.u64.wrap (IntKind.u64.wrap (x.fdiv (2^32)*y.fdiv (2^32))+(IntKind.u64.wrap (IntKind.u64.wrap (x.fdiv (2^32)*IntKind.u64.wrap (↑(BitVec.ofInt 64 y&&&BitVec.ofInt 64 4294967295).toNat:Int))+(IntKind.u64.wrap (IntKind.u64.wrap (↑(BitVec.ofInt 64 x&&&BitVec.ofInt 64 4294967295).toNat:Int)*IntKind.u64.wrap (↑(BitVec.ofInt 64 y&&&BitVec.ofInt 64 4294967295).toNat:Int))).fdiv (2^32))).fdiv (2^32))+(IntKind.u64.wrap (IntKind.u64.wrap (↑(BitVec.ofInt 64 (IntKind.u64.wrap (IntKind.u64.wrap (x.fdiv (2^32)*IntKind.u64.wrap (↑(BitVec.ofInt 64 y&&&BitVec.ofInt 64 4294967295).toNat:Int))+(IntKind.u64.wrap (IntKind.u64.wrap (↑(BitVec.ofInt 64 x&&&BitVec.ofInt 64 4294967295).toNat:Int)*IntKind.u64.wrap (↑(BitVec.ofInt 64 y&&&BitVec.ofInt 64 4294967295).toNat:Int))).fdiv (2^32)))&&&BitVec.ofInt 64 4294967295).toNat:Int)+IntKind.u64.wrap (IntKind.u64.wrap (↑(BitVec.ofInt 64 x&&&BitVec.ofInt 64 4294967295).toNat:Int)*y.fdiv (2^32)))).fdiv (2^32)))),.v (.int .u64 (IntKind.u64.wrap (x*y)))]:=by kernel_rfl
def Sg(a b:Int):St:=⟨[.int .u64 a,.int .u64 b]++us 10,[[]],[]⟩
def Sgx(a:Int):St:=⟨[.int .u64 a]++us 11,[[]],[]⟩
def Gg:List It->(X->St->OD)->OD
 |[.i a,.i b],k=>br (decide (0<=a)&&decide (0<=b)&&decide (b<18446744073709551616)) (k (.exit 0) (Sgx (gcdI a b))) none
 |_,_=>none
def lg(f:FuncId):LoopC where
 f:=f
 id:=1
 lv:=[0,1]
 lx:=[0,4]
 p:={τ:=[.v (.int .u64),.v (.int .u64)]++pu 10,saved:=[[]],mem:=[]}
 G:=Gg
noncomputable def Cg:Cx:=mkCx Tryz.prog fns [] [lg 138]
theorem roundg(q:Nat)(R:St->OD)(K:X->St->OD)(a b:Int):evCode Cg 138 true (inl Cg (q+4)) (lbody Cg.P 138 1) (Sg a b) (rnd [0,1] (some [0,4]) R K)=br (b>0) (br (b=0) none (R (Sg b (a.tmod b)))) (K (.exit 0) (Sgx a)):=by kernel_rfl
theorem go_gcd{f:St->(X->St->OD)->OD}(hr:∀a b R K,0<=b->f (Sg a b) (rnd [0,1] (some [0,4]) R K)=if b=0 then K (.exit 0) (Sgx a)else R (Sg b (a.tmod b)))(K:X->St->OD):
  ∀(n:Nat)(a b:Int),0<=a->0<=b->b<n->rounds [0,1] (some [0,4]) f n (Sg a b) K=K (.exit 0) (Sgx (gcdI a b))
 |0,a,b,_,h1,h2=>by omega
 |n+1,a,b,h0,h1,h2=>by
  rw[rnds1,hr _ _ _ _ h1];by_cases hb:b=0
  ·rw[AM hb,hb,gcdI_zero a h0]
  ·rw[AL hb,gcdI_step a b h0 (by omega)];have h3:0<=a.tmod b:=Int.tmod_nonneg _ h0;have h4:a.tmod b<b:=Int.tmod_lt_of_pos _ (by omega);exact go_gcd hr K n b (a.tmod b) h1 h3 (by omega)
theorem loopg:LoopOk Cg (lg 138):=⟨by kernel_rfl,fun q its k rr h=>by
 show rounds [0,1] (some [0,4]) (evCode Cg 138 true (inl Cg (q+4)) (lbody Cg.P 138 1)) 18446744073709551616 (bst (lg 138).p its) k=some rr;change Gg its k=some rr at h;unfold Gg at h;split at h
 ·rename_i a b;rcases br_some h with⟨h1,h2⟩|⟨_,h2⟩
  ·simp only[A2,A3]at h1;rw[<-h2];exact go_gcd (fun a b R K hb=>by
    rw[roundg];by_cases h0:b=0
    ·rw[AM h0,show decide (b>0)=false from AB (by omega)];rfl
    ·rw[AL h0,show decide (b>0)=true from A4 (by omega),AB h0];rfl) k 18446744073709551616 a b h1.1.1 h1.1.2 (by have:=h1.2;exact this)
  ·cases h2
 ·cases h⟩
theorem Cg_ok:CxOk Cg:=mkCx_ok enter mixed (fun p h=>by cases h) (fun l h=>by
 simp only[A8,A7,or_false]at h;subst h;exact loopg)
def Fgcd:FD
 |[.v (.int .u64 a),.v (.int .u64 b)]=>some (uR a&&uR b,[.v (u64 (gcdI a b))])
 |_=>none
theorem tg(a b:Int):evF Cg 6 138 [.v (u64 a),.v (u64 b)]=br (0<=a&&0<=b&&b<18446744073709551616) (some [.v (u64 (gcdI a b))]) none:=by kernel_rfl
theorem den_gcd:Den Tryz.prog 138 Fgcd:=evF_den Cg_ok fun ds rs h=>by
 unfold Fgcd at h;split at h
 ·rename_i a b;simp only[A5,A6,A2,uR_iff]at h;obtain⟨⟨h1,h2⟩,rfl⟩:=h;refine(tg a b).trans ?_;rw[show(decide (0<=a)&&decide (0<=b)&&decide (b<18446744073709551616))=true by simp only[A2,A3];omega];rfl
 ·cases h
def Fsize:FD
 |[.v (.int .i64 n)]=>some (iR n,[.v (u64 (absI n))])
 |_=>none
theorem den_size:Den Tryz.prog 137 Fsize:=evF_den C0_ok fun ds rs h=>by
 unfold Fsize at h;split at h
 ·rename_i n;simp only[A5,A6,iR_iff]at h;obtain⟨h1,rfl⟩:=h;refine(tsize n).trans ?_;unfold absI;by_cases hn:n<0
  ·rw[AM hn,A4 hn,show IntKind.u64.wrap (0-IntKind.u64.wrap n)= -n by simp only[wrapU];omega];rfl
  ·rw[AL hn,AB hn,show IntKind.u64.wrap n=n by simp only[wrapU];omega];rfl
 ·cases h
def Fmul:FD
 |[.v (.int .u64 x),.v (.int .u64 y)]=>some (uR x&&uR y,[.v (u64 (x*y/18446744073709551616)),.v (u64 (x*y%18446744073709551616))])
 |_=>none
theorem den_mul:Den Tryz.prog 171 Fmul:=evF_den C0_ok fun ds rs h=>by
 unfold Fmul at h;split at h
 ·rename_i x y;simp only[A5,A6,A2,uR_iff]at h;obtain⟨⟨⟨x0,x1⟩,y0,y1⟩,rfl⟩:=h;refine(tmul x y).trans ?_;rw[andM x x0 x1,andM y y0 y1,shrM x x0,shrM y y0];obtain⟨p00,p01,p10,p11,h00,h01,h10,h11,b00,b01,b10,b11,hxy⟩:=mul_parts x y x0 x1 y0 y1;rw[<-h00,<-h01,<-h10,<-h11,hxy];clear h00 h01 h10 h11 hxy;rw[wrapU_id (n:=p00) (by omega) (by omega),wrapU_id (n:=p01) (by omega) (by omega),wrapU_id (n:=p10) (by omega) (by omega),wrapU_id (n:=p11) (by omega) (by omega),shrM p00 (by omega),
   wrapU_id (n:=p10+p00/4294967296) (by omega) (by omega),andM (p10+p00/4294967296) (by omega) (by omega),shrM (p10+p00/4294967296) (by omega)]
  rw[wrapU_id (n:=(p10+p00/4294967296)%4294967296+p01) (by omega) (by omega),shrM ((p10+p00/4294967296)%4294967296+p01) (by omega),wrapU,wrapU,wrapU];refine congrArg some ?_
  congr 1
  ·refine congrArg (fun n=>D.v (u64 n)) ?_;omega
 ·cases h
def goodR(n d:Int):Prop:=(1<=d∧d<=1000000000000000000)∧(-1000000000000000000<=n∧n<=1000000000000000000)∧gcdI (absI n) d=1
instance{n d:Int}:Decidable (goodR n d):=by unfold goodR;infer_instance
def chkE(n d:Int):Int:=if goodR n d then 0 else 8
def mkE(N D:Int):Int:=if 1000000000000000000<N∨1000000000000000000<D then 16 else 0
def mkN(neg:Bool)(N D:Int):Int:=if mkE N D=0 then(if neg=true then-N else N)else 0
def mkD(N D:Int):Int:=if mkE N D=0 then D else 0
theorem gcdI_pos(a b:Int)(ha:0<=a)(hb:0<b):0<gcdI a b:=by
 unfold gcdI;have:0<Nat.gcd a.toNat b.toNat:=Nat.gcd_pos_of_pos_right _ (by omega);omega
def Fchk:FD
 |[.agg [.v (.int .i64 n),.v (.int .i64 d)]]=>some (iR n&&iR d,[.v (i64 (chkE n d))])
 |_=>none
noncomputable def C1:Cx:=mkCx Tryz.prog fns [(138,Fgcd),(137,Fsize)] []
theorem C1_ok:CxOk C1:=mkCx_ok enter mixed (fun p h=>by
 simp only[A8,A7,or_false]at h;rcases h with rfl|rfl
 ·exact den_gcd
 ·exact den_size) (fun l h=>by cases h)
theorem tchk(n d:Int):evF C1 6 88 [.agg [.v (i64 n),.v (i64 d)]]=br (d<1) (some [.v (i64 8)]) (br (iR n) (br ((if IntKind.u64.wrap d>absI n then IntKind.u64.wrap d else absI n)>1000000000000000000) (some [.v (i64 8)]) (br (iR n) (br (uR (absI n)&&uR (IntKind.u64.wrap d)) (br (gcdI (absI n) (IntKind.u64.wrap d)>1) (some [.v (i64 8)]) (some [.v (i64 0)])) none) none)) none):=by kernel_rfl
theorem wrapI_id{n:Int}(h0: -9223372036854775808<=n)(h1:n<9223372036854775808):IntKind.i64.wrap n=n:=by rw[wrapI];omega
theorem absI_or(n:Int):0<=absI n∧(absI n=n∨absI n= -n):=by unfold absI;split<;>omega
theorem den_chk:Den Tryz.prog 88 Fchk:=evF_den C1_ok fun ds rs h=>by
 unfold Fchk at h;split at h
 ·rename_i n d;simp only[A5,A6,A2]at h;obtain⟨⟨h1,h2⟩,rfl⟩:=h;refine(tchk n d).trans ?_;have⟨h3,h4⟩:=iR_iff.mp h1;have⟨h5,h6⟩:=iR_iff.mp h2;have⟨a1,a0⟩:=absI_or n;unfold chkE;by_cases hd:d<1
  ·rw[A4 hd,br_true,AL (fun hg=>by have:=hg.1.1;omega)]
  ·rw[AB hd,h1,wrapU_id (n:=d) (by omega) (by omega),br_false,br_true];by_cases hm:(if d>absI n then d else absI n)>1000000000000000000
   ·rw[A4 hm,br_true,AL (fun hg=>by have:=hg.1;have:=hg.2.1;split at hm<;>omega)]
   ·have hm':d<=1000000000000000000∧absI n<=1000000000000000000:=by split at hm<;>omega
    rw[AB hm,br_false,br_true,show(uR (absI n)&&uR d)=true by simp only[A2,uR_iff];omega,br_true];have hp:=gcdI_pos (absI n) d a1 (by omega);by_cases hg:gcdI (absI n) d>1
    ·rw[A4 hg,br_true,AL (fun h=>by have:=h.2.2;omega)]
    ·rw[AB hg,br_false,AM ⟨by omega,by omega,by omega⟩]
 ·cases h
noncomputable def C2:Cx:=mkCx Tryz.prog fns [(138,Fgcd),(137,Fsize),(88,Fchk)] []
theorem C2_ok:CxOk C2:=mkCx_ok enter mixed (fun p h=>by
 simp only[A8,A7,or_false]at h;rcases h with rfl|rfl|rfl
 ·exact den_gcd
 ·exact den_size
 ·exact den_chk) (fun l h=>by cases h)
theorem tcheck(n d m e:Int):evF C2 6 144 [.agg [.v (i64 n),.v (i64 d)],.agg [.v (i64 m),.v (i64 e)]]=br (iR n&&iR d) (br (iR m&&iR e) (br ((((Row.zeros 2).setI 0 0 (chkE n d)).setI 1 0 (chkE m e)).I 0 0 !=0) (some [.v (i64 ((((Row.zeros 2).setI 0 0 (chkE n d)).setI 1 0 (chkE m e)).I 0 0))]) (br ((((Row.zeros 2).setI 0 0 (chkE n d)).setI 1 0 (chkE m e)).I 1 0 !=0) (some [.v (i64 ((((Row.zeros 2).setI 0 0 (chkE n d)).setI 1 0 (chkE m e)).I 1 0))]) (some [.v (i64 0)]))) none) (none):=by kernel_rfl
def chk2(n d m e:Int):Int:=if chkE n d=0 then chkE m e else chkE n d
def Fboth:FD
 |[.agg [.v (.int .i64 n),.v (.int .i64 d)],.agg [.v (.int .i64 m),.v (.int .i64 e)]]=>some (iR n&&iR d&&iR m&&iR e,[.v (i64 (chk2 n d m e))])
 |_=>none
theorem den_check:Den Tryz.prog 144 Fboth:=evF_den C2_ok fun ds rs h=>by
 unfold Fboth at h;split at h
 ·rename_i n d m e;simp only[A5,A6,A2]at h;obtain⟨⟨⟨⟨h1,h2⟩,h3⟩,h4⟩,rfl⟩:=h;refine(tcheck n d m e).trans ?_;rw[h1,h2,h3,h4,show(((Row.zeros 2).setI 0 0 (chkE n d)).setI 1 0 (chkE m e)).I 0 0=chkE n d from rfl,show(((Row.zeros 2).setI 0 0 (chkE n d)).setI 1 0 (chkE m e)).I 1 0=chkE m e from rfl];unfold chk2;by_cases hc:chkE n d=0
  ·rw[show(chkE n d !=0)=false by simpa using hc,AM hc];by_cases hk:chkE m e=0
   ·rw[hk];rfl
   ·rw[show(chkE m e !=0)=true by simpa using hk];rfl
  ·rw[show(chkE n d !=0)=true by simpa using hc,AL hc];rfl
 ·cases h
theorem chk_good{n d:Int}(h:chkE n d=0):goodR n d:=by
 unfold chkE at h;split at h
 ·assumption
 ·omega
theorem chk2_good{n d m e:Int}(h:chk2 n d m e=0):goodR n d∧goodR m e:=by
 unfold chk2 at h;split at h
 ·rename_i h1;exact⟨chk_good h1,chk_good h⟩
 ·contradiction
def wd(a b:Int):Int:=a*18446744073709551616+b
def cmpI(a b:Int):Int:=if a<b then-1 else if b<a then 1 else 0
def Fcmpi:FD
 |[.v (.int .i64 a),.v (.int .i64 b)]=>some (true,[.v (i64 (cmpI a b))])
 |_=>none
def Fcmpu:FD
 |[.v (.int .u64 a),.v (.int .u64 b)]=>some (true,[.v (i64 (cmpI a b))])
 |_=>none
theorem tcmpi(a b:Int):evF C0 6 170 [.v (i64 a),.v (i64 b)]=br (a !=a) (br (b !=b) (some [.v (i64 0)]) (some [.v (i64 (-1))])) (br (b !=b) (some [.v (i64 1)]) (br (a<b) (some [.v (i64 (-1))]) (br (a>b) (some [.v (i64 1)]) (some [.v (i64 0)])))):=by kernel_rfl
theorem tcmpu(a b:Int):evF C0 6 173 [.v (u64 a),.v (u64 b)]=br (a !=a) (br (b !=b) (some [.v (i64 0)]) (some [.v (i64 (-1))])) (br (b !=b) (some [.v (i64 1)]) (br (a<b) (some [.v (i64 (-1))]) (br (a>b) (some [.v (i64 1)]) (some [.v (i64 0)])))):=by kernel_rfl
theorem den_cmpi:Den Tryz.prog 170 Fcmpi:=evF_den C0_ok fun ds rs h=>by
 unfold Fcmpi at h;split at h
 ·rename_i a b;simp only[A5,A6]at h;obtain⟨_,rfl⟩:=h;refine(tcmpi a b).trans ?_;rw[show(a !=a)=false by simp,show(b !=b)=false by simp,br_false,br_false];unfold cmpI;refine br_splitP (fun h=>?_) (fun h=>br_splitP (fun h'=>?_) (fun h'=>?_))
  ·rw[AM h]
  ·rw[AL h,AM h']
  ·rw[AL h,AL h']
 ·cases h
theorem den_cmpu:Den Tryz.prog 173 Fcmpu:=evF_den C0_ok fun ds rs h=>by
 unfold Fcmpu at h;split at h
 ·rename_i a b;simp only[A5,A6]at h;obtain⟨_,rfl⟩:=h;refine(tcmpu a b).trans ?_;rw[show(a !=a)=false by simp,show(b !=b)=false by simp,br_false,br_false];unfold cmpI;refine br_splitP (fun h=>?_) (fun h=>br_splitP (fun h'=>?_) (fun h'=>?_))
  ·rw[AM h]
  ·rw[AL h,AM h']
  ·rw[AL h,AL h']
 ·cases h
theorem abs_mul(n e:Int):absI n*e=if n<0 then-(n*e)else n*e:=by
 unfold absI;split
 ·rw[Int.neg_mul]
 ·rfl
def cpC(n d m e:Int):Int:=if chk2 n d m e=0 then cmpI (n*e) (m*d)else 0
def Fcmp:FD
 |[.agg [.v (.int .i64 n),.v (.int .i64 d)],.agg [.v (.int .i64 m),.v (.int .i64 e)]]=>some (iR n&&iR d&&iR m&&iR e,[.v (i64 (cpC n d m e)),.v (i64 (chk2 n d m e))])
 |_=>none
theorem cmpI_lt{a b:Int}(h:a<b):cmpI a b= -1:=AM h
theorem cmpI_gt{a b:Int}(h:b<a):cmpI a b=1:=by unfold cmpI;rw[AL (by omega),AM h]
theorem cmpI_eq{a b:Int}(h:a=b):cmpI a b=0:=by unfold cmpI;rw[AL (by omega),AL (by omega)]
theorem cmpI_wide(x y:Int)(hx:0<=x)(hy:0<=y):cmpI x y=if cmpI (x/18446744073709551616) (y/18446744073709551616)≠0 then cmpI (x/18446744073709551616) (y/18446744073709551616)else cmpI (x%18446744073709551616) (y%18446744073709551616):=by
 rcases Int.lt_trichotomy (x/18446744073709551616) (y/18446744073709551616)with h|h|h
 ·rw[cmpI_lt h,AM (by decide),cmpI_lt (by omega)]
 ·rw[cmpI_eq h,AL (by simp)];unfold cmpI
  repeat' split
  all_goals omega
 ·rw[cmpI_gt h,AM (by decide),cmpI_gt (by omega)]
theorem cmpI_range(x y:Int):cmpI x y= -1∨cmpI x y=0∨cmpI x y=1:=by
 rcases Int.lt_trichotomy x y with h|h|h
 ·exact .inl (cmpI_lt h)
 ·exact .inr (.inl (cmpI_eq h))
 ·exact .inr (.inr (cmpI_gt h))
theorem cmpI_neg(x y:Int):cmpI (-x) (-y)= -cmpI x y:=by
 rcases Int.lt_trichotomy x y with h|h|h
 ·rw[cmpI_lt h,cmpI_gt (by omega)];rfl
 ·rw[cmpI_eq h,cmpI_eq (by omega)];rfl
 ·rw[cmpI_gt h,cmpI_lt (by omega)]
noncomputable def C12:Cx:=mkCx Tryz.prog fns [(138,Fgcd),(137,Fsize),(144,Fboth),(171,Fmul),(170,Fcmpi),(173,Fcmpu)] []
theorem C12_ok:CxOk C12:=mkCx_ok enter mixed (fun p h=>by
 simp only[A8,A7,or_false]at h;rcases h with rfl|rfl|rfl|rfl|rfl|rfl
 ·exact den_gcd
 ·exact den_size
 ·exact den_check
 ·exact den_mul
 ·exact den_cmpi
 ·exact den_cmpu) (fun l h=>by cases h)
theorem ad_bounds{n d m e:Int}(hc:chk2 n d m e=0):(1<=d∧d<=1000000000000000000)∧(1<=e∧e<=1000000000000000000)∧(0<=absI n∧absI n<=1000000000000000000)∧(0<=absI m∧absI m<=1000000000000000000)∧iR n=true∧iR m=true:=by
 obtain⟨⟨⟨d1,d2⟩,⟨n1,n2⟩,_⟩,⟨e1,e2⟩,⟨m1,m2⟩,_⟩:=chk2_good hc;have⟨a1,a0⟩:=absI_or n;have⟨b1,b0⟩:=absI_or m;exact⟨⟨d1,d2⟩,⟨e1,e2⟩,⟨a1,by omega⟩,⟨b1,by omega⟩,iR_iff.mpr (by omega),iR_iff.mpr (by omega)⟩
theorem wd_parts(A:Int):wd (A/18446744073709551616) (A%18446744073709551616)=A:=by unfold wd;omega
theorem tcmp(n d m e:Int):evF C12 6 136 [.agg [.v (i64 n),.v (i64 d)],.agg [.v (i64 m),.v (i64 e)]]=br (iR n&&iR d&&iR m&&iR e) (br (chk2 n d m e !=0) (some [.v (i64 0),.v (i64 (chk2 n d m e))]) (br (!decide (n<0)==decide (m<0)) (some [.v (i64 (cmpI n m)),.v (i64 0)]) (br (iR n) (br (uR (absI n)&&uR (IntKind.u64.wrap e)) (br (iR m) (br (uR (absI m)&&uR (IntKind.u64.wrap d)) (br ((((Row.zeros 2).setI 0 0 (cmpI (absI n*IntKind.u64.wrap e/18446744073709551616) (absI m*IntKind.u64.wrap d/18446744073709551616))).setI 1 0 (cmpI (absI n*IntKind.u64.wrap e%18446744073709551616) (absI m*IntKind.u64.wrap d%18446744073709551616))).I 0 0 !=0) (br (n<0) (some [.v (i64 (IntKind.i64.wrap (0-(((Row.zeros 2).setI 0 0 (cmpI (absI n*IntKind.u64.wrap e/18446744073709551616) (absI m*IntKind.u64.wrap d/18446744073709551616))).setI 1 0 (cmpI (absI n*IntKind.u64.wrap e%18446744073709551616) (absI m*IntKind.u64.wrap d%18446744073709551616))).I 0 0))),.v (i64 0)]) (some [.v (i64 ((((Row.zeros 2).setI 0 0 (cmpI (absI n*IntKind.u64.wrap e/18446744073709551616) (absI m*IntKind.u64.wrap d/18446744073709551616))).setI 1 0 (cmpI (absI n*IntKind.u64.wrap e%18446744073709551616) (absI m*IntKind.u64.wrap d%18446744073709551616))).I 0 0)),.v (i64 0)])) (br ((((Row.zeros 2).setI 0 0 (cmpI (absI n*IntKind.u64.wrap e/18446744073709551616) (absI m*IntKind.u64.wrap d/18446744073709551616))).setI 1 0 (cmpI (absI n*IntKind.u64.wrap e%18446744073709551616) (absI m*IntKind.u64.wrap d%18446744073709551616))).I 1 0 !=0) (br (n<0) (some [.v (i64 (IntKind.i64.wrap (0-(((Row.zeros 2).setI 0 0 (cmpI (absI n*IntKind.u64.wrap e/18446744073709551616) (absI m*IntKind.u64.wrap d/18446744073709551616))).setI 1 0 (cmpI (absI n*IntKind.u64.wrap e%18446744073709551616) (absI m*IntKind.u64.wrap d%18446744073709551616))).I 1 0))),.v (i64 0)]) (some [.v (i64 ((((Row.zeros 2).setI 0 0 (cmpI (absI n*IntKind.u64.wrap e/18446744073709551616) (absI m*IntKind.u64.wrap d/18446744073709551616))).setI 1 0 (cmpI (absI n*IntKind.u64.wrap e%18446744073709551616) (absI m*IntKind.u64.wrap d%18446744073709551616))).I 1 0)),.v (i64 0)])) (br (n<0) (some [.v (i64 0),.v (i64 0)]) (some [.v (i64 0),.v (i64 0)])))) none) none) none) none))) (none):=by kernel_rfl
theorem den_cmpp:Den Tryz.prog 136 Fcmp:=evF_den C12_ok fun ds rs h=>by
 unfold Fcmp at h;split at h
 ·rename_i n d m e;simp only[A5,A6]at h;obtain⟨h0,rfl⟩:=h;refine(tcmp n d m e).trans ?_;unfold cpC;rw[h0,br_true];simp only[A2]at h0;obtain⟨⟨⟨h1,h2⟩,h3⟩,h4⟩:=h0;by_cases hc:chk2 n d m e=0
  ·obtain⟨⟨⟨d1,d2⟩,_⟩,⟨e1,e2⟩,_⟩:=chk2_good hc;obtain⟨_,_,⟨a1,a2⟩,⟨b1,b2⟩,_⟩:=ad_bounds hc;rw[show(chk2 n d m e !=0)=false by simpa using hc,br_false,AM hc,h1,h3,wrapU_id (n:=d) (by omega) (by omega),wrapU_id (n:=e) (by omega) (by omega),
    show(uR (absI n)&&uR e)=true by simp only[A2,uR_iff];omega,show(uR (absI m)&&uR d)=true by simp only[A2,uR_iff];omega,br_true,br_true,br_true,br_true,hc]
   have hx:=abs_mul n e;have hy:=abs_mul m d;have x0:0<=absI n*e:=Int.mul_nonneg a1 (by omega);have y0:0<=absI m*d:=Int.mul_nonneg b1 (by omega);have sx:n<0->n*e<0:=fun h=>Int.mul_neg_of_neg_of_pos h (by omega);have sx':0<=n->0<=n*e:=fun h=>Int.mul_nonneg h (by omega);have sy:m<0->m*d<0:=fun h=>Int.mul_neg_of_neg_of_pos h (by omega);have sy':0<=m->0<=m*d:=fun h=>Int.mul_nonneg h (by omega);have hw:=cmpI_wide _ _ x0 y0;generalize absI n*e=x at*
   generalize absI m*d=y at*
   generalize n*e=u at*
   generalize m*d=v at*
   have r1:=cmpI_range (x/18446744073709551616) (y/18446744073709551616);have r2:=cmpI_range (x%18446744073709551616) (y%18446744073709551616);generalize hp:cmpI (x/18446744073709551616) (y/18446744073709551616)=p at*
   generalize hq:cmpI (x%18446744073709551616) (y%18446744073709551616)=q at*
   rw[show(((Row.zeros 2).setI 0 0 p).setI 1 0 q).I 0 0=p from rfl,show(((Row.zeros 2).setI 0 0 p).setI 1 0 q).I 1 0=q from rfl,wrapI_id (n:=0-p) (by omega) (by omega),wrapI_id (n:=0-q) (by omega) (by omega),Int.zero_sub,Int.zero_sub];by_cases hs:decide (n<0)=decide (m<0)
   ·rw[show(!decide (n<0)==decide (m<0))=false by rw[hs];cases decide (m<0)<;>rfl,br_false];have hcmp:cmpI u v=if n<0 then-cmpI x y else cmpI x y:=by
     by_cases hn:n<0
     ·have hm:m<0:=by rw[A4 hn]at hs;exact AD hs.symm
      rw[AM hn]at hx⊢;rw[AM hm]at hy;rw[hx,hy,cmpI_neg,Int.neg_neg]
     ·have hm:¬m<0:=by rw[AB hn]at hs;exact AO hs.symm
      rw[AL hn]at hx⊢;rw[AL hm]at hy;rw[hx,hy]
    rw[hcmp];by_cases hp0:p=0
    ·rw[show(p !=0)=false by simpa using hp0,br_false];rw[AL (fun h=>h hp0)]at hw;rw[hw];by_cases hq0:q=0
     ·rw[show(q !=0)=false by simpa using hq0,br_false,hq0];by_cases hn:n<0
      ·rw[A4 hn,AM hn];rfl
      ·rw[AB hn,AL hn];rfl
     ·rw[show(q !=0)=true by simpa using hq0,br_true];by_cases hn:n<0
      ·rw[A4 hn,AM hn];rfl
      ·rw[AB hn,AL hn];rfl
    ·rw[show(p !=0)=true by simpa using hp0,br_true];rw[AM hp0]at hw;rw[hw];by_cases hn:n<0
     ·rw[A4 hn,AM hn];rfl
     ·rw[AB hn,AL hn];rfl
   ·rw[show(!decide (n<0)==decide (m<0))=true by revert hs;cases decide (n<0)<;>cases decide (m<0)<;>simp,br_true];have hnm:(n<0∧0<=m)∨(0<=n∧m<0):=by
     by_cases hn:n<0
     ·refine .inl ⟨hn,?_⟩;rcases Int.lt_or_le m 0 with h|h
      ·exact absurd ((A4 hn).trans (A4 h).symm) hs
      ·exact h
     ·refine .inr ⟨by omega,?_⟩;rcases Int.lt_or_le m 0 with h|h
      ·exact h
      ·exact absurd ((AB hn).trans (AB (show¬m<0 by omega)).symm) hs
    rcases hnm with⟨g1,g2⟩|⟨g1,g2⟩
    ·have:=sx g1;have:=sy' g2;rw[cmpI_lt (show n<m by omega),cmpI_lt (show u<v by omega)]
    ·have:=sx' g1;have:=sy g2;rw[cmpI_gt (show m<n by omega),cmpI_gt (show v<u by omega)]
  ·rw[show(chk2 n d m e !=0)=true by simpa using hc,br_true,AL hc]
 ·cases h
end Go.Proofs.YtkcnkimndhgkgaaGreatDoor.Rt
namespace Go.Proofs.YtkcnkimndhgkgaaGreatDoor
open Go.RowKit Go.Shelf
set_option maxRecDepth 100000
attribute [local go_sem] Oper.semAt_some
def upto(f:Nat->Int)(k:Nat):List Int:=(List.range k).map f
theorem upto_succ(f:Nat->Int)(k:Nat):upto f (k+1)=upto f k++[f k]:=by simp[upto,List.range_succ]
theorem upto_length(f:Nat->Int)(k:Nat):(upto f k).length=k:=by simp[upto]
theorem upto_prefix(f:Nat->Int):∀{k n:Nat},k<=n->upto f k<+:upto f n
 |k,0,h=>by
  have:k=0:=by omega
  subst this;exact List.prefix_refl _
 |k,n+1,h=>by
  by_cases hk:k=n+1
  ·subst hk;exact List.prefix_refl _
  ·exact(upto_prefix f (show k<=n by omega)).trans (by rw[upto_succ];exact List.prefix_append _ _)
set_option maxHeartbeats 2000000 in
theorem values1_in(F:Fence)(n:Nat)(h7:F.fn 166)(hro:F.round=none)(hn:1<=n)(l Bs n₀ b off len cap:Nat)(z:Nat->Int)(hreach:len*8<=140737488351232)(hb:b<n₀)(J Jx:List Int->World->Prop)
  (hY:∀pre x W,J pre W->pre.length<len->YieldAt F (n-1) Tryz.prog l #[.int .i64 x] W fun e W'=>
   (e=.returned (.bool true)∧J (pre++[x]) W'∧Below n₀ W W')∨(e=.returned (.bool false)∧Jx (pre++[x]) W'))
  (W:World) (hBs:W.cell? ⟨Bs,0,none⟩=some (.slice (some ⟨b,off,none⟩) len cap)) (hc:∀j,j<len->W.cell? ⟨b,off+j,none⟩=some (.int .i64 (z j))) (h0:J [] W):
  CallsIn F n Tryz.prog 166 #[.func (.yield l) #[] #[],.pointer (some ⟨Bs,0,none⟩)] W fun e W'=>(∃v,e=.returned v)∧
   ((∃ys,ys=upto z len∧J ys W')∨(∃pre,(∃k,k<=len∧pre=upto z k)∧Jx pre W')):=by
 refine callsIn_of_wp Tryz.func166 rfl h7 ?_ hro;simp only[Tryz.ntmps166,List.size_toArray,List.length_cons,List.length_nil,Nat.reduceAdd,Nat.reduceSub,Array.replicate_succ,Array.replicate_zero,List.push_toArray,List.append_toArray,List.nil_append,List.cons_append]
 gi_wp2
 gi_loopw [7] (fun i wr=>∃k:Nat,k<=len∧i=.int .i64 k∧J (upto z k) wr∧Below n₀ W wr)
  (fun i _=>len-(intOf i).toNat)
 case atStart=>exact⟨0,Nat.zero_le _,rfl,h0,Below.refl _ _⟩
 case round=>
  obtain⟨k,hk,rfl,hJs,hnx⟩:=hrel;have hcx:k<len->wr.cell? ⟨b,off+k,none⟩=some (.int .i64 (z k)):=fun h=>(hnx.cell (p:=⟨b,off+k,none⟩) hb).trans (hc k h);by_cases hlt:k<len
  ·obtain⟨fn,tmps,assign,body,hy,hR⟩:=hY _ (z k) wr hJs (by rw[upto_length];exact hlt);have hcx':=hcx hlt
   gi_wp2
   refine hR.mono ?_;rintro e W3 (⟨rfl,hJ3,hk3⟩|⟨rfl,hJx3⟩)
   ·gi_wp2
    go_roundw
    case rel=>exact⟨k+1,by omega,by simp,by rw[upto_succ];exact hJ3,hnx.trans hk3⟩
    case measure=>simp[intOf];omega
   ·gi_wp2
    refine bodyPost_ret (results_none rfl _ _ _) rfl ?_;exact⟨⟨_,rfl⟩,.inr ⟨_,⟨k+1,by omega,(upto_succ _ _).symm⟩,hJx3⟩⟩
  ·obtain rfl:k=len:=by omega
   gi_wp2
   go_end0
   exact⟨⟨_,rfl⟩,.inl ⟨_,rfl,hJs⟩⟩
set_option maxHeartbeats 1000000 in
theorem values1_nil_in(F:Fence)(n:Nat)(h7:F.fn 166)(hro:F.round=none)(l Bs:Nat)(a:Option Addr)(cap:Nat)(J:List Int->World->Prop)(W:World)(hBs:W.cell? ⟨Bs,0,none⟩=some (.slice a 0 cap))(h0:J [] W):
  CallsIn F n Tryz.prog 166 #[.func (.yield l) #[] #[],.pointer (some ⟨Bs,0,none⟩)] W fun e W'=>(∃v,e=.returned v)∧J [] W':=by
 refine callsIn_of_wp Tryz.func166 rfl h7 ?_ hro;simp only[Tryz.ntmps166,List.size_toArray,List.length_cons,List.length_nil,Nat.reduceAdd,Nat.reduceSub,Array.replicate_succ,Array.replicate_zero,List.push_toArray,List.append_toArray,List.nil_append,List.cons_append]
 gi_wp2
 gi_loopw [7] (fun i wr=>i=.int .i64 0∧J [] wr) (fun _ _=>0)
 case atStart=>exact⟨rfl,h0⟩
 case round=>
  obtain⟨rfl,hJs⟩:=hrel
  gi_wp2
  go_end0
  exact⟨⟨_,rfl⟩,hJs⟩
def Nums(n₀:Nat)(W:World)(sv:Value)(len:Nat)(z:Nat->Int):Prop:=∃a cap b off,sv=.slice a len cap∧(0<len->a=some ⟨b,off,none⟩∧b<n₀)∧∀j,j<len->W.cell? ⟨b,off+j,none⟩=some (.int .i64 (z j))
theorem Nums.below{n₀:Nat}{A B:World}(h:Below n₀ A B){sv:Value}{len:Nat}{z:Nat->Int}:Nums n₀ A sv len z->Nums n₀ B sv len z
 |⟨a,cap,b,off,e,hb,hc⟩=>⟨a,cap,b,off,e,hb,fun j hj=>(h.cell (p:=⟨b,off+j,none⟩) (hb (by omega)).2).trans (hc j hj)⟩
theorem values_stops(F:Fence)(n:Nat)(h7:F.fn 166)(hro:F.round=none)(hn:1<=n)(Bs n₀:Nat)(sv:Value)(len:Nat)(z:Nat->Int)(hreach:len*8<=140737488351232)(w:World)(hBs:Bs<w.heap.size)(hn₀:n₀<=w.heap.size)
  (hc:w.cell? ⟨Bs,0,none⟩=some sv) (hI:Nums n₀ w sv len z):
  SeqStopsK F n Tryz.prog 166 #[.pointer (some ⟨Bs,0,none⟩)] (fun x:Int=> #[Value.int .i64 x]) (Below n₀) (fun ys=>ys=upto z len) (fun pre=>pre<+:upto z len) len w:=fun l J Jx W hW _ _ hY h0=>by
 have hc':=(hW.cell (p:=⟨Bs,0,none⟩) hBs).trans hc;obtain⟨a,cap,b,off,rfl,hb,hcs⟩:=hI.below (hW.mono hn₀);by_cases hl:len=0
 ·subst hl;exact(values1_nil_in F n h7 hro l Bs a cap J W hc' h0).mono fun e W' ⟨he,hj⟩=>⟨he,.inl ⟨_,rfl,hj⟩⟩
 ·obtain⟨rfl,hb2⟩:=hb (by omega);refine(values1_in F n h7 hro hn l Bs n₀ b off len cap z hreach hb2 J Jx hY W hc' hcs h0).mono ?_;rintro e W' ⟨he,⟨ys,rfl,hj⟩|⟨pre,⟨k,hk,rfl⟩,hj⟩⟩
  ·exact⟨he,.inl ⟨_,rfl,hj⟩⟩
  ·exact⟨he,.inr ⟨_,upto_prefix z hk,hj⟩⟩
theorem infoI:(Tryz.prog.info? 3).map (fun i=>(i.zero,i.size,i.bytes))=some (some (.int .i64 0),1,8):=by kernel_rfl
set_option maxHeartbeats 2000000 in
theorem appSeq_in(F:Fence)(n:Nat)(h3:F.fn 196)(h5:F.fn 166)(hro:F.round=none)(hn:3<=n)(Bs:Nat)(sv:Value)(len:Nat)(z:Nat->Int)(hlen:len<=1000000)(w:World)(hBs:Bs<w.heap.size)(hcs:w.cell? ⟨Bs,0,none⟩=some sv)(hI:Nums w.heap.size w sv len z):
  CallsIn F n Tryz.prog 196 #[.slice none 0 0,.func (.func 166) #[] #[.pointer (some ⟨Bs,0,none⟩)]] w fun e W'=>∃v,e=.returned v∧W'.ownsRow w.heap.size 3 1 v len ((upto z len).map (Value.int .i64))∧(v=.slice none 0 0↔len=0)∧Below w.heap.size w W':=by
 have h1:1<=n:=by omega
 obtain⟨i0,hi,hz0,hz1,hz2⟩:=info_parts infoI;refine callsIn_of_wp_marks Tryz.func196 rfl h3 ?_ hro;simp only[Tryz.ntmps196,List.size_toArray,List.length_cons,List.length_nil,Nat.reduceAdd,Nat.reduceSub,Array.replicate_succ,Array.replicate_zero,List.push_toArray,List.append_toArray,List.nil_append,List.cons_append]
 gi_wp2
 have bO:=Boxed.new w 35 (.slice none 0 0);have hB0:Below w.heap.size w (w.alloc (.cells #[.slice none 0 0] 35)):=(Below.refl _ w).alloc (Nat.le_refl _) _;refine wpIn_rangeFunc_ownG hro h1 (gf:=166) (lb:= #[.pointer (some ⟨Bs,0,none⟩)]) rfl h5 (enters_of Tryz.func166 (by kernel_rfl) rfl)
  (values_stops F (n-1) h5 hro (by omega) Bs w.heap.size sv len z (by omega) _ (by simp;omega) (by simp) ((hB0.cell (p:=⟨Bs,0,none⟩) hBs).trans hcs) (hI.below hB0)) belowK_t (belowK_b (by simp)) (Below.refl _ _) (fun _=>rfl)
  (fun pre W=>(∃v,Boxed W w.heap.size 35 v∧W.ownsRow w.heap.size 3 1 v pre.length (pre.map (Value.int .i64))∧(v=.slice none 0 0↔pre=[]))∧Below w.heap.size w W)
  (fun _ _ _=>False)
  (OwnFrom.and (Own.from (holdsRow_own w.heap.size w.heap.size 35 3 1 (fun pre=>pre.length) (fun pre=>pre.map (Value.int .i64)) (fun pre v=>v=.slice none 0 0↔pre=[])) _) (ownFrom_below (Nat.le_refl _) (by simp)))
  (fun _ _ _ _ _ hs _ _=>hs)
  ⟨⟨_,bO,World.ownsRow_nil _ _ _ _,by simp⟩,hB0⟩
  (fun x=>{tmps:= #[.slice none 0 0,.func (.func 166) #[] #[.pointer (some ⟨Bs,0,none⟩)],.pointer (some ⟨w.heap.size,0,none⟩),undef,.slice none 0 0,.int .i64 x,.func (.func 166) #[] #[.pointer (some ⟨Bs,0,none⟩)],.int .i64 x,undef,undef,undef,undef,undef],defers:=[]}) ?assign ?body ?done ?stop
 case assign=>
  intro l x W K hK
  gi_wp2
  exact hK
 case body=>
  rintro l pre x W ⟨⟨v,hv,hrow,hnil⟩,hB⟩ hlt;have hc:=hv.cell;have hpl:pre.length<len:=hlt
  gi_wp2_with (gi_at_builtin;refine wpListIn_append_own _ rfl _ _ 35 rfl w.heap.size 3 i0 (.int .i64 0) 1 8 Tryz.underlying35 hi hz0 hz1 hz2 rfl (by decide) _ _ _ rfl (hrow.alloc _) ⟨W.heap.size,0,none⟩ 1 1 [.int .i64 x] rfl rfl (cell_one_new _ _ _) (by simp[Value.oneCell']) (by unfold maxLen;omega) (by omega) (by have:=hB.size;simp;omega) ?_;intro v' w1 hown' hgrow _;obtain⟨g',cap',rfl⟩:=ownsRow_succ hown';obtain⟨hv1,hv2,hr2,hk2,hb2⟩:=hv.appended (by decide) hrow hB.size (Nat.le_refl _) hown' hgrow;have hc1:=hv1.cell;have hf1:=hv1.frozen)
  exact⟨hk2.from _,hb2,⟨_,hv2,by simpa using hr2,by simp⟩,hB.trans hb2⟩
 case done=>
  rintro D ys W hD rfl ⟨⟨v,hv,hrow,hnil⟩,hB⟩ hK;have hc:=hv.cell
  gi_wp2
  refine⟨by simp,.inl ⟨_,_,rfl,run_takeDeferred hK,?_⟩⟩;refine⟨_,results_tmp rfl _ _ _,v,rfl,?_,?_,hB.trans (belowK_b (w:=w) (Nat.le_refl _) W D _ _ (by simp at hD;omega) hK rfl rfl)⟩
  ·have:=ownsRow_putObj hrow (.deferred none) hK rfl;rw[upto_length]at this;exact this
  ·rw[hnil,<-List.length_eq_zero_iff,upto_length]
 case stop=>
  rintro D c pre W _ _ h _;exact h.elim
end Go.Proofs.YtkcnkimndhgkgaaGreatDoor
namespace Go.Dec
open Go.Lib
def dgS(c:UInt8)(n:Int):Option Int:=if c.toNat<48∨57<c.toNat∨100000000000000000<n then none else some (10*n+((c.toNat:Int)-48))
def valL:List UInt8->Int->Option Int
 |[],n=>some n
 |c::r,n=>match dgS c n with
  |some m=>valL r m
  |none=>none
theorem valL_append:∀(l m:List UInt8)(n:Int),valL (l++m) n=(valL l n).bind (valL m)
 |[],m,n=>rfl
 |c::r,m,n=>by
  simp only[List.cons_append,valL];cases dgS c n with
  |none=>rfl
  |some x=>exact valL_append r m x
theorem valL_one(c:UInt8)(n:Int):valL [c] n=dgS c n:=by
 unfold valL;cases dgS c n<;>rfl
theorem dgS_some{c:UInt8}{n m:Int}(h:dgS c n=some m):48<=c.toNat∧c.toNat<=57∧n<=100000000000000000∧m=10*n+((c.toNat:Int)-48):=by
 unfold dgS at h;split at h
 ·cases h
 ·rename_i hc;simp only[Option.some.injEq]at h;omega
theorem ofNat_toNat(k:Nat)(h:k<256):(UInt8.ofNat k).toNat=k:=by
 simp[UInt8.toNat_ofNat',Nat.mod_eq_of_lt h]
theorem toNat_ofNat(c:UInt8):UInt8.ofNat c.toNat=c:=by simp
theorem decDigits_ten{u:Nat}(h:¬u<10):decDigits u=decDigits (u/10)++[UInt8.ofNat (48+u%10)]:=by rw[decDigits,dif_neg h]
theorem valL_dec:∀(N u:Nat),u<=N->u<=1000000000000000009->valL (decDigits u) 0=some (u:Int):=by
 intro N
 induction N with
 |zero=>
  intro u h _;obtain rfl:u=0:=by omega
  rw[decDigits_one (by omega),valL_one];rfl
 |succ N ih=>
  intro u h hu;by_cases hs:u<10
  ·rw[decDigits_one hs,valL_one];unfold dgS;rw[ofNat_toNat _ (by omega),if_neg (by omega)]
   congr 1
   omega
  ·rw[decDigits_ten hs,valL_append,ih (u/10) (by omega) (by omega)];show valL [UInt8.ofNat (48+u%10)] ((u/10:Nat):Int)=_;rw[valL_one];unfold dgS;rw[ofNat_toNat _ (by omega),if_neg (by omega)]
   congr 1
   omega
theorem dec_ne(u:Nat):decDigits u≠[]:=by
 have:=decDigits_length u;have h2:=nDigits_pos u;intro h;rw[h]at this;simp at this;omega
theorem dec_digit:∀(N u:Nat),u<=N->∀c∈decDigits u,48<=c.toNat∧c.toNat<=57:=by
 intro N
 induction N with
 |zero=>
  intro u h c hc;obtain rfl:u=0:=by omega
  rw[decDigits_one (by omega)]at hc;simp only[List.mem_singleton]at hc;subst hc
  decide
 |succ N ih=>
  intro u h c hc;by_cases hs:u<10
  ·rw[decDigits_one hs]at hc;simp only[List.mem_singleton]at hc;subst hc;rw[ofNat_toNat _ (by omega)];omega
  ·rw[decDigits_ten hs,List.mem_append]at hc;rcases hc with hc|hc
   ·exact ih (u/10) (by omega) c hc
   ·simp only[List.mem_singleton]at hc;subst hc;rw[ofNat_toNat _ (by omega)];omega
theorem dec_head:∀(N u:Nat),u<=N->1<=u->∃c r,decDigits u=c::r∧c.toNat≠48:=by
 intro N
 induction N with
 |zero=>intro u h h1;omega
 |succ N ih=>
  intro u h h1;by_cases hs:u<10
  ·exact⟨_,[],decDigits_one hs,by rw[ofNat_toNat _ (by omega)];omega⟩
  ·obtain⟨c,r,h2,h3⟩:=ih (u/10) (by omega) (by omega);exact⟨c,r++[UInt8.ofNat (48+u%10)],by rw[decDigits_ten hs,h2];rfl,h3⟩
theorem dec_of_val:∀(N:Nat)(l:List UInt8)(n:Int),l.length<=N->l≠[]->(l.length=1∨∃c r,l=c::r∧c.toNat≠48)->valL l 0=some n->0<=n∧decDigits n.toNat=l:=by
 intro N
 induction N with
 |zero=>intro l n hN h0;exact absurd (List.length_eq_zero_iff.1 (by omega)) h0
 |succ N ih=>
  intro l n hN h0 hz hv;rcases List.eq_nil_or_concat l with h|⟨l',c,h⟩
  ·exact absurd h h0
  ·rw[List.concat_eq_append]at h;subst h;rw[valL_append]at hv;cases hl:valL l' 0 with
   |none=>rw[hl]at hv;cases hv
   |some m=>
    rw[hl]at hv;have hv:valL [c] m=some n:=hv;rw[valL_one]at hv;obtain⟨c1,c2,c3,rfl⟩:=dgS_some hv;by_cases hl0:l'=[]
    ·subst hl0;cases hl;refine⟨by omega,?_⟩;rw[show(10*(0:Int)+((c.toNat:Int)-48)).toNat=c.toNat-48 by omega,decDigits_one (by omega),show 48+(c.toNat-48)=c.toNat by omega,toNat_ofNat];rfl
    ·have hlen:2<=(l'++[c]).length:=by
      have:l'.length≠0:=fun h=>hl0 (List.length_eq_zero_iff.1 h);simp;omega
     obtain⟨d,r,hd,hd0⟩:∃d r,l'=d::r∧d.toNat≠48:=by
      rcases hz with hz|⟨d,r,hz,hd⟩
      ·omega
      ·cases l' with
       |nil=>exact absurd rfl hl0
       |cons e r'=>
        simp only[List.cons_append,List.cons.injEq]at hz;exact⟨e,r',rfl,by rw[hz.1];exact hd⟩
     obtain⟨i1,i2⟩:=ih l' m (by simp at hN;omega) hl0 (.inr ⟨d,r,hd,hd0⟩) hl;have hm:1<=m.toNat:=by
      by_cases h:m.toNat=0
      ·rw[h,decDigits_one (by omega),hd]at i2;simp only[List.cons.injEq]at i2;exact absurd (by rw[<-i2.1];rfl) hd0
      ·omega
     refine⟨by omega,?_⟩;rw[show(10*m+((c.toNat:Int)-48)).toNat=10*m.toNat+(c.toNat-48) by omega,decDigits_ten (by omega),show(10*m.toNat+(c.toNat-48))/10=m.toNat by omega,i2,
      show 48+(10*m.toNat+(c.toNat-48))%10=c.toNat by omega,toNat_ofNat]
theorem nDigits_lt:∀(k u:Nat),u<10^(k+1)->nDigits u<=k+1
 |0,u,h=>by rw[nDigits_small (by simpa using h)];exact Nat.le_refl _
 |k+1,u,h=>by
  by_cases hs:u<10
  ·rw[nDigits_small hs];omega
  ·rw[nDigits_big hs];have:=nDigits_lt k (u/10) (by rw[Nat.pow_succ]at h;omega);omega
def dgF(l:List UInt8):Bool:=decide (l.length=0)||decide (19<l.length)||(decide (1<l.length)&&decide ((l.headD 0).toNat=48))
def dgN(l:List UInt8):Int:=if dgF l=true then 0 else match valL l 0 with
 |some n=>n
 |none=>0
def dgB(l:List UInt8):Bool:=if dgF l=true then false else match valL l 0 with
 |some n=>decide (n<=1000000000000000000)
 |none=>false
theorem dg_spec{l:List UInt8}(h:dgB l=true):0<=dgN l∧dgN l<=1000000000000000000∧decDigits (dgN l).toNat=l:=by
 unfold dgB at h;unfold dgN;split at h
 ·cases h
 ·rename_i hf;rw[if_neg hf];cases hv:valL l 0 with
  |none=>rw[hv]at h;cases h
  |some n=>
   rw[hv]at h;have h:n<=1000000000000000000:=by simpa using h
   unfold dgF at hf;simp only[Bool.or_eq_true,Bool.and_eq_true,decide_eq_true_eq,not_or,not_and]at hf;obtain⟨⟨f1,f2⟩,f3⟩:=hf;have hne:l≠[]:=fun he=>f1 (by rw[he];rfl);obtain⟨g1,g2⟩:=dec_of_val _ l n (Nat.le_refl _) hne (by
    by_cases hl:1<l.length
    ·right
     have:=f3 hl;cases l with
     |nil=>exact absurd rfl hne
     |cons c r=>exact⟨c,r,rfl,this⟩
    ·left;omega) hv
   exact⟨g1,h,g2⟩
theorem dg_dec(u:Nat)(hu:u<=1000000000000000000):dgB (decDigits u)=true∧dgN (decDigits u)=(u:Int):=by
 have hv:=valL_dec u u (Nat.le_refl _) (by omega);have hl:(decDigits u).length<=19:=by
  rw[decDigits_length];exact nDigits_lt 18 u (by omega)
 have hf:dgF (decDigits u)=false:=by
  unfold dgF;simp only[Bool.or_eq_false_iff,Bool.and_eq_false_iff,decide_eq_false_iff_not];refine⟨⟨fun h=>dec_ne u (List.length_eq_zero_iff.1 h),by omega⟩,?_⟩;by_cases h0:u=0
  ·left
   rw[h0,decDigits_one (by omega)]
   decide
  ·right
   obtain⟨c,r,h1,h2⟩:=dec_head u u (Nat.le_refl _) (by omega);rw[h1];exact h2
 unfold dgB dgN;rw[if_neg (by rw[hf];decide),if_neg (by rw[hf];decide),hv];exact⟨decide_eq_true (by omega),rfl⟩
theorem parseUintM_append(M:Nat):∀(l m:List UInt8)(a:Nat),parseUintM M a (l++m)=match parseUintM M a l with
  |.ok b=>parseUintM M b m
  |Go.Lib.NumEnd.syntax=>Go.Lib.NumEnd.syntax
  |.range=>.range
 |[],m,a=>rfl
 |c::r,m,a=>by
  simp only[List.cons_append,parseUintM];split
  ·split
   ·rfl
   ·split
    ·rfl
    ·exact parseUintM_append M r m _
  ·rfl
theorem parseUintM_dec(M:Nat)(hM:M<=18446744073709551615):∀(N u:Nat),u<=N->u<=M->parseUintM M 0 (decDigits u)=.ok u:=by
 intro N
 induction N with
 |zero=>
  intro u h _;obtain rfl:u=0:=by omega
  rw[decDigits_one (by omega)];simp[parseUintM]
 |succ N ih=>
  intro u h hu;by_cases hs:u<10
  ·rw[decDigits_one hs];simp only[parseUintM];rw[ofNat_toNat _ (by omega),if_pos (by omega),if_neg (by omega),if_neg (by omega)]
   congr 1
   omega
  ·rw[decDigits_ten hs,parseUintM_append,ih (u/10) (by omega) (by omega)];simp only[parseUintM];rw[ofNat_toNat _ (by omega),if_pos (by omega),if_neg (by omega),if_neg (by omega)]
   congr 1
   omega
theorem parseInt_itoa(n:Int)(h0: -9223372036854775808<=n)(h1:n<=9223372036854775807):parseIntB 64 (itoa n)=.ok n:=by
 have e1:(2:Nat)^64-1=18446744073709551615:=by decide
 have e2:(2:Nat)^(64-1)=9223372036854775808:=by decide
 by_cases hn:n<0
 ·obtain⟨u,rfl⟩:∃u:Nat,n= -(u:Int):=⟨n.natAbs,by omega⟩;rw[itoa_neg u (by omega)];have hU:parseUintB 64 (decDigits u)=.ok u:=by
   unfold parseUintB;rw[if_neg (dec_ne u),e1];exact parseUintM_dec _ (Nat.le_refl _) u u (Nat.le_refl _) (by omega)
  unfold parseIntB;have h45:(45:UInt8).toNat=45:=rfl;simp only[h45];rw[if_pos (by simp),hU];simp only[e2];rw[if_neg (by simp),if_neg (by omega),if_pos trivial]
 ·obtain⟨u,rfl⟩:∃u:Nat,n=(u:Int):=⟨n.toNat,by omega⟩;rw[itoa_nonneg u];have hU:parseUintB 64 (decDigits u)=.ok u:=by
   unfold parseUintB;rw[if_neg (dec_ne u),e1];exact parseUintM_dec _ (Nat.le_refl _) u u (Nat.le_refl _) (by omega)
  cases hd:decDigits u with
  |nil=>exact absurd hd (dec_ne u)
  |cons c r=>
   have hc:=dec_digit u u (Nat.le_refl _) c (by rw[hd];simp);unfold parseIntB;simp only;rw[if_neg (by omega),<-hd,hU];simp only[e2];rw[if_neg (by omega),if_neg (by omega),if_neg (by omega)]
end Go.Dec
namespace Go.Proofs.YtkcnkimndhgkgaaGreatDoor.Rt
open Go.Dec Go.Lib
def sp:List UInt8->List UInt8×Option (List UInt8)
 |[]=>([],none)
 |c::r=>if c=47 then([],some r)else(c::(sp r).1,(sp r).2)
theorem sp_spec:∀l:List UInt8,l=(sp l).1++(match(sp l).2 with|none=>[]|some r=>47::r)
 |[]=>rfl
 |c::r=>by
  unfold sp;by_cases h:c=47
  ·rw[if_pos h,h];rfl
  ·rw[if_neg h];have:=sp_spec r;show c::r=c::((sp r).1++_);rw[<-this]
theorem sp_app:∀(x y:List UInt8),(∀c∈x,c≠47)->sp (x++47::y)=(x,some y)
 |[],y,_=>by simp[sp]
 |c::x,y,h=>by
  show sp (c::(x++47::y))=_;unfold sp;rw[if_neg (h c (by simp)),sp_app x y fun d hd=>h d (by simp[hd])]
theorem sp_none:∀(x:List UInt8),(∀c∈x,c≠47)->sp x=(x,none)
 |[],_=>rfl
 |c::x,h=>by
  unfold sp;rw[if_neg (h c (by simp)),sp_none x fun d hd=>h d (by simp[hd])]
theorem index_sp:∀l:List UInt8,index l [47]=match(sp l).2 with|none=> -1|some _=>((sp l).1.length:Int)
 |[]=>rfl
 |c::r=>by
  unfold index sp;by_cases h:c=47
  ·subst h;rfl
  ·have hp:[(47:UInt8)].isPrefixOf (c::r)=false:=by
    simp only[List.isPrefixOf,Bool.and_eq_false_iff]
    left
    exact beq_eq_false_iff_ne.2 fun e=>h e.symm
   rw[if_neg (by rw[hp];decide),if_neg h,index_sp r];show(if _ then _ else _)=match(sp r).2 with|none=>(-1:Int)|some _=>((c::(sp r).1).length:Int)
   cases(sp r).2 with
   |none=>rfl
   |some y=>
    simp only[List.length_cons];rw[if_neg (by simp)];omega
theorem sp_take:∀l:List UInt8,l.take (sp l).1.length=(sp l).1∧((sp l).2=none->(sp l).1.length=l.length)∧∀r,(sp l).2=some r->(sp l).1.length<l.length∧l.drop ((sp l).1.length+1)=r∧l[(sp l).1.length]? =some 47
 |[]=>⟨rfl,fun _=>rfl,fun r h=>by cases h⟩
 |c::r=>by
  unfold sp;by_cases h:c=47
  ·rw[if_pos h];exact⟨rfl,(fun h=>by cases h),fun y hy=>by cases hy;exact⟨by simp,by simp,by simp[h]⟩⟩
  ·rw[if_neg h];obtain⟨h1,h2,h3⟩:=sp_take r;refine⟨by simp[h1],fun hn=>by simp[h2 hn],fun y hy=>?_⟩;obtain⟨a,b,d⟩:=h3 y hy;exact⟨by simp;omega,by simpa using b,by simpa using d⟩
theorem cut_sp(l:List UInt8):cut l [47]=((sp l).1,(sp l).2.getD [],(sp l).2.isSome):=by
 unfold cut;rw[index_sp];obtain⟨h1,h2,h3⟩:=sp_take l;cases hs:(sp l).2 with
 |none=>
  simp only[hs];rw[if_neg (by omega)];have:=sp_spec l;rw[hs]at this;simp only[List.append_nil]at this;rw[<-this];rfl
 |some y=>
  obtain⟨a,b,_⟩:=h3 y hs;simp only[hs];rw[if_pos (by omega),Int.toNat_natCast,h1];simp only[List.length_cons,List.length_nil,Nat.zero_add,b];rfl
def txL(n d:Int):List UInt8:=if chkE n d=0 then(if d>1 then itoa n++47::itoa d else itoa n)else []
def rpG(l:List UInt8):Bool:=decide (l≠[])&&decide ((l.headD 0).toNat=45)
def rpL(l:List UInt8):List UInt8:=if rpG l=true then l.tail else l
def rpM(l:List UInt8):Int:=match(sp (rpL l)).2 with|none=>1|some b=>dgN b
def rpI(l:List UInt8):Bool:=match(sp (rpL l)).2 with|none=>true|some b=>dgB b&&decide (dgN b>1)
def rpV(l:List UInt8):Int:=if rpG l=true then-dgN (sp (rpL l)).1 else dgN (sp (rpL l)).1
def rpE(l:List UInt8):Int:=if dgB (sp (rpL l)).1=true∧rpI l=true∧¬(rpG l=true∧dgN (sp (rpL l)).1=0)∧chkE (rpV l) (rpM l)=0 then 0 else 12
def rpN(l:List UInt8):Int:=if rpE l=0 then rpV l else 0
def rpD(l:List UInt8):Int:=if rpE l=0 then rpM l else 0
theorem chk_of_good{n d:Int}(h:goodR n d):chkE n d=0:=if_pos h
theorem digit_ne{c:UInt8}(h:48<=c.toNat∧c.toNat<=57):c≠47∧c.toNat≠45:=⟨fun e=>by subst e;revert h;decide,by omega⟩
theorem rp_sound{l:List UInt8}(h:rpE l=0):goodR (rpN l) (rpD l)∧txL (rpN l) (rpD l)=l:=by
 have e1:rpN l=rpV l:=if_pos h;have e2:rpD l=rpM l:=if_pos h;unfold rpE at h;split at h
 ·rename_i hc;obtain⟨h1,h2,h3,h4⟩:=hc;rw[e1,e2];refine⟨chk_good h4,?_⟩;obtain⟨d1,d2,d3⟩:=dg_spec h1;have hnum:itoa (rpV l)=(if rpG l=true then [45]else [])++(sp (rpL l)).1:=by
   unfold rpV;by_cases hg:rpG l=true
   ·rw[if_pos hg,if_pos hg];obtain⟨u,hu⟩:∃u:Nat,dgN (sp (rpL l)).1=(u:Int):=⟨_,(Int.toNat_of_nonneg d1).symm⟩;have h0:dgN (sp (rpL l)).1≠0:=fun h0=>h3 ⟨hg,h0⟩;rw[hu]at d3 h0⊢;rw[itoa_neg u (by omega)];rw[Int.toNat_natCast]at d3;rw[d3];rfl
   ·rw[if_neg hg,if_neg hg];obtain⟨u,hu⟩:∃u:Nat,dgN (sp (rpL l)).1=(u:Int):=⟨_,(Int.toNat_of_nonneg d1).symm⟩;rw[hu]at d3⊢;rw[itoa_nonneg];rw[Int.toNat_natCast]at d3;rw[d3];rfl
  have hl:l=(if rpG l=true then [45]else [])++rpL l:=by
   unfold rpL;by_cases hg:rpG l=true
   ·rw[if_pos hg,if_pos hg];unfold rpG at hg;simp only[Bool.and_eq_true,decide_eq_true_eq]at hg;cases l with
    |nil=>exact absurd rfl hg.1
    |cons c r=>
     have:c=45:=by
      have h5:c.toNat=45:=hg.2;rw[<-toNat_ofNat c,h5];rfl
     rw[this];rfl
   ·rw[if_neg hg,if_neg hg];rfl
  unfold txL;rw[if_pos h4,hnum];have hsp:=sp_spec (rpL l);cases hs:(sp (rpL l)).2 with
  |none=>
   rw[hs]at hsp;have hm:rpM l=1:=by unfold rpM;rw[hs]
   rw[hm,if_neg (by omega)];simp only[List.append_nil]at hsp;rw[<-hsp];exact hl.symm
  |some b=>
   rw[hs]at hsp;have hm:rpM l=dgN b:=by unfold rpM;rw[hs]
   unfold rpI at h2;rw[hs]at h2;simp only[Bool.and_eq_true,decide_eq_true_eq]at h2;obtain⟨b1,b2,b3⟩:=dg_spec h2.1;obtain⟨u,hu⟩:∃u:Nat,dgN b=(u:Int):=⟨_,(Int.toNat_of_nonneg b1).symm⟩;rw[hm,if_pos h2.2,hu,itoa_nonneg];rw[hu,Int.toNat_natCast]at b3;rw[b3,List.append_assoc,<-hsp];exact hl.symm
 ·cases h
theorem itoa_ne47(n:Int):∀c∈itoa n,c≠47:=by
 intro c hc;unfold itoa at hc;split at hc
 ·rcases List.mem_cons.1 hc with rfl|hc
  ·decide
  ·exact(digit_ne (dec_digit _ _ (Nat.le_refl _) c hc)).1
 ·exact(digit_ne (dec_digit _ _ (Nat.le_refl _) c hc)).1
theorem rp_num{n:Int}(hn: -1000000000000000000<=n∧n<=1000000000000000000)(rest:List UInt8)(hr:rest=[]∨∃r,rest=47::r):
  rpG (itoa n++rest)=decide (n<0)∧rpL (itoa n++rest)=decDigits n.natAbs++rest:=by
 unfold rpL;by_cases h:n<0
 ·obtain⟨u,rfl⟩:∃u:Nat,n= -(u:Int):=⟨n.natAbs,by omega⟩;have hg:rpG (itoa (-(u:Int))++rest)=true:=by
   rw[itoa_neg u (by omega)];rfl
  rw[hg,decide_eq_true h,if_pos rfl,itoa_neg u (by omega)];exact⟨rfl,by simp⟩
 ·obtain⟨u,rfl⟩:∃u:Nat,n=(u:Int):=⟨n.toNat,by omega⟩;have hg:rpG (itoa (u:Int)++rest)=false:=by
   rw[itoa_nonneg u];cases hd:decDigits u with
   |nil=>exact absurd hd (dec_ne u)
   |cons c r=>
    have:=(digit_ne (dec_digit u u (Nat.le_refl _) c (by rw[hd];simp))).2;unfold rpG;simp[this]
  rw[hg,decide_eq_false h,if_neg (by decide),itoa_nonneg u];exact⟨rfl,by simp⟩
theorem rp_complete{n d:Int}(h:goodR n d):rpE (txL n d)=0∧rpN (txL n d)=n∧rpD (txL n d)=d:=by
 obtain⟨g1,g2,g3⟩:=id h;obtain⟨k1,k2⟩:=dg_dec n.natAbs (by omega);have hdig:∀c∈decDigits n.natAbs,c≠47:=fun c hc=>(digit_ne (dec_digit _ _ (Nat.le_refl _) c hc)).1;have key:∀l,l=txL n d->rpG l=decide (n<0)->(sp (rpL l)).1=decDigits n.natAbs->rpM l=d->rpI l=true->rpE l=0∧rpN l=n∧rpD l=d:=by
  intro l _ e1 e2 e3 e4;have hv:rpV l=n:=by
   unfold rpV;rw[e1,e2,k2];by_cases hn:n<0
   ·rw[decide_eq_true hn,if_pos rfl];omega
   ·rw[decide_eq_false hn,if_neg (by decide)];omega
  have hE:rpE l=0:=by
   unfold rpE;rw[if_pos];rw[e2,e1,hv,e3];exact⟨k1,e4,fun⟨h1,h2⟩=>by
    have h1:=of_decide_eq_true h1;rw[k2]at h2;omega,chk_of_good h⟩
  exact⟨hE,(if_pos hE).trans hv,(if_pos hE).trans e3⟩
 have ht:txL n d=(if d>1 then itoa n++47::itoa d else itoa n):=if_pos (chk_of_good h);by_cases hd:d>1
 ·rw[if_pos hd]at ht;obtain⟨r1,r2⟩:=rp_num g2 (47::itoa d) (.inr ⟨_,rfl⟩);rw[<-ht]at r1 r2;have hs:sp (rpL (txL n d))=(decDigits n.natAbs,some (itoa d)):=by rw[r2];exact sp_app _ _ hdig
  obtain⟨u,rfl⟩:∃u:Nat,d=(u:Int):=⟨d.toNat,by omega⟩;obtain⟨m1,m2⟩:=dg_dec u (by omega);rw[itoa_nonneg]at hs;refine key _ rfl r1 (by rw[hs]) ?_ ?_
  ·unfold rpM;rw[hs];exact m2
  ·unfold rpI;rw[hs];show(dgB (decDigits u)&&decide (dgN (decDigits u)>1))=true;rw[m1,m2,decide_eq_true hd];rfl
 ·rw[if_neg hd]at ht;obtain⟨r1,r2⟩:=rp_num g2 [] (.inl rfl);rw[List.append_nil,<-ht]at r1;rw[List.append_nil,List.append_nil,<-ht]at r2;have hs:sp (rpL (txL n d))=(decDigits n.natAbs,none):=by rw[r2];exact sp_none _ hdig
  refine key _ rfl r1 (by rw[hs]) ?_ ?_
  ·unfold rpM;rw[hs];show(1:Int)=d;omega
  ·unfold rpI;rw[hs]
def ppD(l:List UInt8):Int:=if(sp l).2.getD []=[]then 1 else piN ((sp l).2.getD [])
def ppE(l:List UInt8):Int:=if piE (sp l).1=false∧((sp l).2.getD []=[]∨piE ((sp l).2.getD [])=false)∧chkE (piN (sp l).1) (ppD l)=0∧txL (piN (sp l).1) (ppD l)=l then 0 else 12
theorem pi_itoa{n:Int}(hn: -1000000000000000000<=n∧n<=1000000000000000000):piE (itoa n)=false∧piN (itoa n)=n:=by
 have h:=parseInt_itoa n (by omega) (by omega);unfold piE piN;rw[h];exact⟨rfl,rfl⟩
theorem itoa_ne(n:Int):itoa n≠[]:=by
 unfold itoa;split
 ·simp
 ·exact dec_ne _
theorem pp_complete{n d:Int}(h:goodR n d):ppE (txL n d)=0∧piN (sp (txL n d)).1=n∧ppD (txL n d)=d:=by
 obtain⟨g1,g2,g3⟩:=id h;have ht:txL n d=(if d>1 then itoa n++47::itoa d else itoa n):=if_pos (chk_of_good h);obtain⟨a1,a2⟩:=pi_itoa g2;obtain⟨b1,b2⟩:=pi_itoa (n:=d) (by omega);have hs:sp (txL n d)=(itoa n,if d>1 then some (itoa d)else none):=by
  rw[ht];by_cases hd:d>1
  ·rw[if_pos hd,if_pos hd];exact sp_app _ _ (itoa_ne47 n)
  ·rw[if_neg hd,if_neg hd];exact sp_none _ (itoa_ne47 n)
 have hD:ppD (txL n d)=d:=by
  unfold ppD;rw[hs];by_cases hd:d>1
  ·rw[if_pos hd,if_neg (show¬(some (itoa d)).getD []=[]from itoa_ne d)];exact b2
  ·rw[if_neg hd,if_pos (show(none:Option (List UInt8)).getD []=[]from rfl)];omega
 have hN:piN (sp (txL n d)).1=n:=by rw[hs];exact a2
 refine⟨?_,hN,hD⟩;unfold ppE;rw[if_pos];rw[hD,hN];refine⟨by rw[hs];exact a1,?_,chk_of_good h,rfl⟩;rw[hs];by_cases hd:d>1
 ·rw[if_pos hd];exact .inr b1
 ·rw[if_neg hd];exact .inl rfl
theorem rpE_or(l:List UInt8):rpE l=0∨rpE l=12:=by
 unfold rpE;split
 ·exact .inl rfl
 ·exact .inr rfl
theorem pp_rp(l:List UInt8):ppE l=rpE l∧(ppE l=0->piN (sp l).1=rpN l∧ppD l=rpD l):=by
 by_cases hp:ppE l=0
 ·have hc:piE (sp l).1=false∧((sp l).2.getD []=[]∨piE ((sp l).2.getD [])=false)∧chkE (piN (sp l).1) (ppD l)=0∧txL (piN (sp l).1) (ppD l)=l:=by
   unfold ppE at hp;split at hp
   ·assumption
   ·cases hp
  obtain⟨r1,r2,r3⟩:=rp_complete (chk_good hc.2.2.1);rw[hc.2.2.2]at r1 r2 r3;exact⟨hp.trans r1.symm,fun _=>⟨r2.symm,r3.symm⟩⟩
 ·refine⟨?_,fun h=>absurd h hp⟩;rcases rpE_or l with hr|hr
  ·obtain⟨g,ht⟩:=rp_sound hr;obtain⟨p1,_,_⟩:=pp_complete g;rw[ht]at p1;exact absurd p1 hp
  ·rw[hr];unfold ppE at hp⊢;split
   ·rename_i h;rw[if_pos h]at hp;exact absurd rfl hp
   ·rfl
open Go.Ev Go.RowKit
set_option maxRecDepth 100000
theorem by_txt(l:List UInt8):by_ (txt l)=l:=rfl
theorem txt_size(l:List UInt8):(txt l).size=l.length:=by
 show(l.toArray).size=_;simp
theorem txt_app(a b:List UInt8):txt a++txt b=txt (a++b):=ByteArray.mk_append_mk a b
theorem size_by(s:ByteArray):s.size=(by_ s).length:=by
 show s.data.size=s.data.toList.length;simp
theorem toList_by(s:ByteArray):s.toList=by_ s:=ByteArray.toList_eq s
def Fck(ce:Int->Int->Int):FD
 |[.agg [.v (.int .i64 n),.v (.int .i64 d)]]=>some (iR n&&iR d,[.v (i64 (ce n d))])
 |_=>none
def pqE:OD:=some [.agg [.v (i64 0),.v (i64 0)],.v (i64 12)]
def Fps:FD
 |[.v (.string s)]=>some (s.size<=4000000000,[.agg [.v (i64 (rpN (by_ s))),.v (i64 (rpD (by_ s)))],.v (i64 (rpE (by_ s)))])
 |_=>none
theorem rp_or(l:List UInt8):rpE l=12->rpN l=0∧rpD l=0:=fun h=>⟨AL (by omega),AL (by omega)⟩
def Ffm(ft:Int->ByteArray):FD
 |[.v (.int .i64 n),.v (.int .i64 b)]=>some (iR n&&decide (b=10),[.v (.string (ft n))])
 |_=>none
noncomputable def CTg(dd ft:Int->ByteArray)(ce:Int->Int->Int):Cx:=mkCx Tryz.prog fns [(88,Fck ce),(180,Ffm ft)] []
theorem ttext(dd ft:Int->ByteArray)(ce:Int->Int->Int)(n d:Int):evF (CTg dd ft ce) 6 150 [.agg [.v (i64 n),.v (i64 d)]]=br (iR n&&iR d) (br (ce n d !=0) (some [.v (.string ({data:={toList:=[]:Array UInt8}:ByteArray})),.v (i64 (ce n d))]) (br (iR n&&10=10) (br (d>1) (br (iR d&&10=10) (br ((↑({data:= #[47]:ByteArray}.size+(ft d).size):Int)>IntKind.i64.max) none (br ((↑((ft n).size+({data:= #[47]:ByteArray}++ft d).size):Int)>IntKind.i64.max) none (some [.v (.string (ft n++({data:={toList:=[47]:Array UInt8}:ByteArray}++ft d))),.v (i64 0)]))) none) (some [.v (.string (ft n)),.v (i64 0)])) none)) (none):=by kernel_rfl
theorem iR_same(n:Int):Go.Proofs.YtkcnkimndhgkgaaGreatDoor.iR n=iR n:=by rw[Bool.eq_iff_iff,Go.Proofs.YtkcnkimndhgkgaaGreatDoor.iR_iff,iR_iff];omega
theorem den_fmtR:DenW Tryz.prog Wd 180 (Ffm fun n=>txt (itoa n)):=den_fmt.less fun ds rs h=>by
 unfold Ffm at h;unfold Ffmt;split at h
 ·rename_i n b;show some (Go.Proofs.YtkcnkimndhgkgaaGreatDoor.iR n&&decide (b=10),_)=_;rw[iR_same];exact h
 ·cases h
theorem CT_ok:CxW (CTg (fun n=>txt (decDigits n.toNat)) (fun n=>txt (itoa n)) chkE) Wd:=mkCx_okW enter mixed (fun p h=>by
 simp only[A8,A7,or_false]at h;rcases h with rfl|rfl
 ·exact den_chk.at _
 ·exact den_fmtR) (fun l h=>by cases h)
def Ftx:FD
 |[.agg [.v (.int .i64 n),.v (.int .i64 d)]]=>some (iR n&&iR d,[.v (str (txL n d)),.v (i64 (chkE n d))])
 |_=>none
theorem max_i64:IntKind.i64.max=9223372036854775807:=by decide
theorem itoa_len{n:Int}(h:iR n=true):(itoa n).length<=21:=by
 obtain⟨h0,h1⟩:=iR_iff.1 h;exact itoa_length_le n h0 (by omega)
theorem den_text:DenW Tryz.prog Wd 150 Ftx:=evF_denW CT_ok fun ds rs h=>by
 unfold Ftx at h;split at h
 ·rename_i n d;simp only[A5,A6]at h;obtain⟨h0,rfl⟩:=h;refine(ttext (fun n=>txt (decDigits n.toNat)) (fun n=>txt (itoa n)) chkE n d).trans ?_;have hr:=h0;simp only[A2]at hr;rw[h0,br_true];unfold str txL;by_cases hc:chkE n d=0
  ·rw[show(chkE n d !=0)=false by simpa using hc,br_false,hr.1,show(true&&decide (10=10))=true from rfl,br_true,AM hc,hr.2,hc,show(true&&decide (10=10))=true from rfl,br_true];have l1:=itoa_len hr.1;have l2:=itoa_len hr.2;by_cases hd:d>1
   ·rw[A4 hd,br_true,AM hd];show br (decide ((((txt [47]).size+(txt (itoa d)).size:Nat):Int)>IntKind.i64.max)) none (br (decide ((((txt (itoa n)).size+(txt [47]++txt (itoa d)).size:Nat):Int)>IntKind.i64.max)) none (some [D.v (.string (txt (itoa n)++(txt [47]++txt (itoa d)))),.v (i64 0)]))=_;rw[txt_app,txt_app,txt_size,txt_size,txt_size,txt_size,max_i64,AB (by simp;omega),br_false,AB (by simp;omega),br_false];rfl
   ·rw[AB hd,br_false,AL hd]
  ·rw[show(chkE n d !=0)=true by simpa using hc,br_true,AL hc];rfl
 ·cases h
def Fct(c1 c2:ByteArray->ByteArray->ByteArray)(c3:ByteArray->ByteArray->Bool):FD
 |[.v (.string s),.v (.string p)]=>some (s.size<4294967281,[.v (.string (c1 s p)),.v (.string (c2 s p)),.v (.bool (c3 s p))])
 |_=>none
def Fpi(pn:ByteArray->Int)(pe:ByteArray->Bool):FD
 |[.v (.string s),.v (.int .i64 b),.v (.int .i64 z)]=>some (decide (b=10)&&decide (z=64)&&decide (s.size<=4294967296),[.v (i64 (pn s)),.err (pe s)])
 |_=>none
def Ftv(tn:Int->Int->ByteArray)(te:Int->Int->Int):FD
 |[.agg [.v (.int .i64 n),.v (.int .i64 d)]]=>some (iR n&&iR d,[.v (.string (tn n d)),.v (i64 (te n d))])
 |_=>none
noncomputable def CQg(c1 c2:ByteArray->ByteArray->ByteArray)(c3:ByteArray->ByteArray->Bool)(pn:ByteArray->Int)(pe:ByteArray->Bool)(tn:Int->Int->ByteArray)(te:Int->Int->Int):Cx:=mkCx Tryz.prog fns [(150,Ftv tn te),(224,Fpi pn pe),(61,Fct c1 c2 c3)] []
def ptF(tn:Int->Int->ByteArray)(te:Int->Int->Int)(s:ByteArray)(num den:Int):OD:=br (iR num&&iR den) (br (te num den !=0) pqE (br (!((tn num den).toList==s.toList)) pqE (some [.agg [.v (i64 num),.v (i64 den)],.v (i64 0)]))) none
def ptT(pn:ByteArray->Int)(pe:ByteArray->Bool)(tn:Int->Int->ByteArray)(te:Int->Int->Int)(s a b:ByteArray):OD:=br (decide (10=10)&&decide (64=64)&&decide (a.size<=4294967296)) (br (pe a) pqE (br (!(b.toList==(txt []).toList)) (br (decide (10=10)&&decide (64=64)&&decide (b.size<=4294967296)) (br (pe b) pqE (ptF tn te s (pn a) (pn b))) none) (ptF tn te s (pn a) 1))) none
theorem tparse(c1 c2:ByteArray->ByteArray->ByteArray)(c3:ByteArray->ByteArray->Bool)(pn:ByteArray->Int)(pe:ByteArray->Bool)(tn:Int->Int->ByteArray)(te:Int->Int->Int)(s:ByteArray):evF (CQg c1 c2 c3 pn pe tn te) 6 193 [.v (.string s)]=br (s.size<4294967281) (ptT pn pe tn te s (c1 s (txt [47])) (c2 s (txt [47]))) none:=by kernel_rfl
theorem CQ_ok:CxW (CQg (fun s p=>txt (cut (by_ s) (by_ p)).1) (fun s p=>txt (cut (by_ s) (by_ p)).2.1) (fun s p=>(cut (by_ s) (by_ p)).2.2) (fun s=>piN (by_ s)) (fun s=>piE (by_ s)) (fun n d=>txt (txL n d)) chkE) Wd:=mkCx_okW enter mixed (fun p h=>by
 simp only[A8,A7,or_false]at h;rcases h with rfl|rfl|rfl
 ·exact den_text
 ·exact den_pint
 ·exact den_cut) (fun l h=>by cases h)
theorem pi_range{l:List UInt8}(h:piE l=false):iR (piN l)=true:=by
 unfold piE at h;unfold piN;rcases hp:parseIntB 64 l with v|_|_
 ·have:=parseIntB_bounds hp;have e2:(2:Nat)^(64-1)=9223372036854775808:=by decide
  rw[e2]at this;exact iR_iff.2 (by show-9223372036854775808<=v∧v<9223372036854775808;omega)
 ·rw[hp]at h;cases h
 ·rw[hp]at h;cases h
theorem bytes_eq(a b:ByteArray):(a.toList==b.toList)=decide (by_ a=by_ b):=by
 rw[toList_by,toList_by,Bool.eq_iff_iff];simp
theorem sp_le(l:List UInt8):(sp l).1.length<=l.length∧((sp l).2.getD []).length<=l.length:=by
 obtain⟨t1,t2,t3⟩:=sp_take l;have h:=congrArg List.length (sp_spec l);cases hq:(sp l).2 with
 |none=>rw[hq]at h;simp at h;simp;omega
 |some y=>rw[hq]at h;simp at h;simp;omega
theorem den_parp:DenW Tryz.prog Wd 193 Fps:=evF_denW CQ_ok fun ds rs h=>by
 unfold Fps at h;split at h
 ·rename_i s;simp only[A5,A6,A3]at h;obtain⟨h0,rfl⟩:=h;refine(tparse _ _ _ _ _ _ _ s).trans ?_;have hc:cut (by_ s) (by_ (txt [47]))=((sp (by_ s)).1,(sp (by_ s)).2.getD [],(sp (by_ s)).2.isSome):=cut_sp (by_ s);rw[A4 (show s.size<4294967281 by omega),br_true,hc];obtain⟨l1,l2⟩:=sp_le (by_ s);rw[<-size_by]at l1 l2;obtain⟨p1,p2⟩:=pp_rp (by_ s);show ptT (fun s=>piN (by_ s)) (fun s=>piE (by_ s)) (fun n d=>txt (txL n d)) chkE s (txt (sp (by_ s)).1) (txt ((sp (by_ s)).2.getD []))=_;have hbad:ppE (by_ s)≠0->pqE=some [.agg [.v (i64 (rpN (by_ s))),.v (i64 (rpD (by_ s)))],.v (i64 (rpE (by_ s)))]:=fun h=>by
   have hr:rpE (by_ s)=12:=(rpE_or _).resolve_left (by rw[<-p1];exact h);obtain⟨a,b⟩:=rp_or _ hr;rw[a,b,hr];rfl
  unfold ptT;dsimp only;rw[txt_size,txt_size,A4 (show(sp (by_ s)).1.length<=4294967296 by omega),show(decide (10=10)&&decide (64=64)&&true)=true from rfl,br_true,bytes_eq,by_txt,by_txt,by_txt];cases e1:piE (sp (by_ s)).1
  ·rw[br_false];have fin:∀den,den=ppD (by_ s)->((sp (by_ s)).2.getD []=[]∨piE ((sp (by_ s)).2.getD [])=false)->iR den=true->ptF (fun n d=>txt (txL n d)) chkE s (piN (sp (by_ s)).1) den=some [.agg [.v (i64 (rpN (by_ s))),.v (i64 (rpD (by_ s)))],.v (i64 (rpE (by_ s)))]:=by
    intro den hden hor hir;unfold ptF;dsimp only;rw[pi_range e1,hir,show(true&&true)=true from rfl,br_true,bytes_eq,by_txt,hden];by_cases c1:chkE (piN (sp (by_ s)).1) (ppD (by_ s))=0
    ·rw[show(chkE (piN (sp (by_ s)).1) (ppD (by_ s)) !=0)=false by simpa using c1,br_false];by_cases c2:txL (piN (sp (by_ s)).1) (ppD (by_ s))=by_ s
     ·have hp0:ppE (by_ s)=0:=AM ⟨e1,hor,c1,c2⟩;rw[A4 c2,show(!true)=false from rfl,br_false,(p2 hp0).1,(p2 hp0).2,<-p1,hp0]
     ·rw[AB c2,show(!false)=true from rfl,br_true];exact hbad (by unfold ppE;rw[AL fun⟨_,_,_,h⟩=>c2 h];decide)
    ·rw[show(chkE (piN (sp (by_ s)).1) (ppD (by_ s)) !=0)=true by simpa using c1,br_true];exact hbad (by unfold ppE;rw[AL fun⟨_,_,h,_⟩=>c1 h];decide)
   by_cases hG:(sp (by_ s)).2.getD []=[]
   ·rw[A4 hG,show(!true)=false from rfl,br_false];exact fin 1 (by unfold ppD;rw[AM hG]) (.inl hG) (by decide)
   ·rw[AB hG,show(!false)=true from rfl,br_true,A4 (show((sp (by_ s)).2.getD []).length<=4294967296 by omega),show(decide (10=10)&&decide (64=64)&&true)=true from rfl,br_true];cases e2:piE ((sp (by_ s)).2.getD [])
    ·rw[br_false];exact fin _ (by unfold ppD;rw[AL hG]) (.inr e2) (pi_range e2)
    ·rw[br_true];exact hbad (by unfold ppE;rw[AL fun⟨_,h,_⟩=>h.elim hG (fun h=>by rw[e2]at h;cases h)];decide)
  ·rw[br_true];exact hbad (by unfold ppE;rw[AL fun⟨h,_⟩=>by rw[e1]at h;cases h];decide)
 ·cases h
end Go.Proofs.YtkcnkimndhgkgaaGreatDoor.Rt
namespace Go.Proofs.YtkcnkimndhgkgaaGreatDoor
open Go.Ev
set_option maxRecDepth 100000
def rg4(r:Row)(i:Nat):Bool:=Rt.iR (r.I i 0)&&Rt.iR (r.I i 1)&&Rt.iR (r.I i 2)&&Rt.iR (r.I i 3)
def spV(a b c d:Int):Bool:=Rt.chk2 a b c d==0&&decide (Rt.cpC a b c d<0)
def Fvld:FD
 |[.agg [.v (.int .i64 a),.v (.int .i64 b),.v (.int .i64 c),.v (.int .i64 d)]]=>some (Rt.iR a&&Rt.iR b&&Rt.iR c&&Rt.iR d,[.v (.bool (spV a b c d))])
 |_=>none
def Ford:FD
 |[.agg [.v (.int .i64 a),.v (.int .i64 b)],.agg [.v (.int .i64 c),.v (.int .i64 d)]]=>some (Rt.iR a&&Rt.iR b&&Rt.iR c&&Rt.iR d,[.v (i64 (Rt.cpC a b c d))])
 |_=>none
def Fles:FD
 |[.agg [.v (.int .i64 a),.v (.int .i64 b)],.agg [.v (.int .i64 c),.v (.int .i64 d)]]=>some (Rt.iR a&&Rt.iR b&&Rt.iR c&&Rt.iR d,[.v (.bool (decide (Rt.cpC a b c d<0)))])
 |_=>none
noncomputable def CCm:Cx:=mkCx Tryz.prog fns [(136,Rt.Fcmp)] []
theorem CCm_ok:CxOk CCm:=mkCx_ok enter mixed (fun p h=>by
 simp only[A8,A7,or_false]at h;rcases h with rfl;exact Rt.den_cmpp) (fun l h=>by cases h)
theorem uvld(a b c d:Int):evF CCm 6 169 [.agg [.v (i64 a),.v (i64 b),.v (i64 c),.v (i64 d)]]=br (Rt.iR a&&Rt.iR b&&Rt.iR c&&Rt.iR d) (br (Rt.chk2 a b c d==0) (some [.v (.bool (Rt.cpC a b c d<0))]) (some [.v (.bool false)])) (none):=by kernel_rfl
theorem uord(a b c d:Int):evF CCm 6 135 [.agg [.v (i64 a),.v (i64 b)],.agg [.v (i64 c),.v (i64 d)]]=br (Rt.iR a&&Rt.iR b&&Rt.iR c&&Rt.iR d) (some [.v (i64 (Rt.cpC a b c d))]) (none):=by kernel_rfl
theorem ules(a b c d:Int):evF CCm 6 86 [.agg [.v (i64 a),.v (i64 b)],.agg [.v (i64 c),.v (i64 d)]]=br (Rt.iR a&&Rt.iR b&&Rt.iR c&&Rt.iR d) (some [.v (.bool (Rt.cpC a b c d<0))]) (none):=by kernel_rfl
theorem den_vld:Den Tryz.prog 169 Fvld:=evF_den CCm_ok fun ds rs h=>by
 unfold Fvld at h;split at h
 ·rename_i a b c d;simp only[A5,A6]at h;obtain⟨h0,rfl⟩:=h;refine(uvld a b c d).trans ?_;rw[h0,br_true];unfold spV;cases Rt.chk2 a b c d==0<;>rfl
 ·cases h
theorem den_ord:Den Tryz.prog 135 Ford:=evF_den CCm_ok fun ds rs h=>by
 unfold Ford at h;split at h
 ·rename_i a b c d;simp only[A5,A6]at h;obtain⟨h0,rfl⟩:=h;refine(uord a b c d).trans ?_;rw[h0,br_true]
 ·cases h
theorem den_les:Den Tryz.prog 86 Fles:=evF_den CCm_ok fun ds rs h=>by
 unfold Fles at h;split at h
 ·rename_i a b c d;simp only[A5,A6]at h;obtain⟨h0,rfl⟩:=h;refine(ules a b c d).trans ?_;rw[h0,br_true]
 ·cases h
def p_lal:PSt:={τ:=pu 8++[.v (.sl 0),.v (.int .i64),.v (.int .i64)]++pu 7,saved:=[[]],mem:=[.row [.int .i64,.int .i64,.int .i64,.int .i64] false]}
structure A_lal where
 n:Nat
 len:Int
 j:Int
 r:Row
def d_lal(its:List It):Option A_lal:=match its with|[.n n,.i len,.i j,.r r]=>some ⟨n,len,j,r⟩|_=>none
def c_lal(x:A_lal):Bool:=x.j=0∧x.len=x.n∧x.n<=1000000∧(∀i,i<x.n->rg4 x.r i=true)
def c_lal_iff{x:A_lal}:=@ciff _ c_lal _ _ rfl x
def lal:ScanL A_lal:=⟨134,4,[8,9,10],[2],p_lal,d_lal,fun x j=>[.n x.n,.i (x.n:Int),.i (j:Int),.r x.r],fun x=>x.n,c_lal,fun x j=> !spV (x.r.I j 0) (x.r.I j 1) (x.r.I j 2) (x.r.I j 3),fun x j K=>K .ret ⟨us 2++[i64 8]++us 15,[[]],[]⟩,fun x K=>K (.exit 0) ⟨us 18,[[]],[]⟩⟩
noncomputable def Cal:Cx:=mkCx Tryz.prog fns [(169,Fvld)] [lal.C]
theorem r_lal(R:St->OD)(K:X->St->OD)(q n:Nat)(len j:Int)(r:Row):bodyOf Cal 134 4 q (bst p_lal [.n n,.i len,.i j,.r r]) (rnd [8,9,10] (some [2]) R K)=br (j<len) (br (0<=j&&j<(n:Int)) (br (Rt.iR (r.I (0+j.toNat) 0)&&Rt.iR (r.I (0+j.toNat) 1)&&Rt.iR (r.I (0+j.toNat) 2)&&Rt.iR (r.I (0+j.toNat) 3)) (br (!spV (r.I (0+j.toNat) 0) (r.I (0+j.toNat) 1) (r.I (0+j.toNat) 2) (r.I (0+j.toNat) 3)) (K .ret ⟨us 2++[i64 8]++us 15,[[]],[]⟩) (R ⟨us 8++[S_ 0 0 n,i64 len,i64 (IntKind.i64.wrap (j+1))]++us 7,[[]],[some (.row [.int .i64,.int .i64,.int .i64,.int .i64] false r)]⟩)) none) none) (K (.exit 0) ⟨us 18,[[]],[]⟩):=by kernel_rfl
theorem ual(r:Row):evF Cal 6 134 [.slice [.int .i64,.int .i64,.int .i64,.int .i64] r]=br ((r.n:Int)>60) (some [.v (i64 4)]) (br (c_lal (⟨r.n,(r.n:Int),0,r⟩:A_lal)) (br (anyF (fun j=> !spV (r.I j 0) (r.I j 1) (r.I j 2) (r.I j 3)) r.n 0) (some [.v (i64 8)]) (some [.v (i64 0)])) none):=by kernel_rfl
theorem ok_lal:LoopOk Cal lal.C:=lal.ok (by kernel_rfl)
 (fun its x h hc=>by
  replace h:d_lal its=some x:=h;unfold d_lal at h;split at h
  ·cases h;obtain⟨h1,h2,h3,h4⟩:=c_lal_iff.1 hc;dsimp only at h1 h2;subst h1 h2;rfl
  ·cases h)
 (fun x hc=>by have:=c_lal_iff.1 hc;show x.n<18446744073709551616;omega)
 (fun q ⟨n,len0,j0,r⟩ j hc hi R K=>by
  obtain⟨h1,h2,h3,h4⟩:=c_lal_iff.1 hc;dsimp only at*
  replace hi:j<n:=hi;refine(r_lal R K q n ((n:Int)) ((j:Int)) r).trans ?_;have k1:=h4 j hi;unfold rg4 at k1;rw[A9,AE j,gd j n hi,ltd j n hi,wsn (by omega),k1];rfl)
 (fun q ⟨n,len0,j0,r⟩ hc R K=>by
  obtain⟨h1,h2,h3,h4⟩:=c_lal_iff.1 hc;dsimp only at*
  refine(r_lal R K q n ((n:Int)) ((n:Int)) r).trans ?_;rw[ltn n];rfl)
theorem Cal_ok:CxOk Cal:=mkCx_ok enter mixed (fun p h=>by
 simp only[A8,A7,or_false]at h;rcases h with rfl;exact den_vld) (fun l h=>by
 simp only[A8,A7,or_false]at h;rcases h with rfl;exact ok_lal)
def allE(r:Row):Int:=bif (r.n:Int)>60 then 4 else bif anyF (fun j=> !spV (r.I j 0) (r.I j 1) (r.I j 2) (r.I j 3)) r.n 0 then 8 else 0
def Fall:FD
 |[.slice [.int .i64,.int .i64,.int .i64,.int .i64] r]=>some (decide (r.n<=1000000∧∀i,i<r.n->rg4 r i=true),[.v (i64 (allE r))])
 |_=>none
theorem den_all:Den Tryz.prog 134 Fall:=evF_den Cal_ok fun ds rs h=>by
 unfold Fall at h;split at h
 ·rename_i r;simp only[A5,A6,A3]at h;obtain⟨h0,rfl⟩:=h;refine(ual r).trans ?_;unfold allE;rw[c_lal_iff.2 ⟨rfl,rfl,h0⟩,br_true];cases decide ((r.n:Int)>60)
  ·show br (anyF (fun j=> !spV (r.I j 0) (r.I j 1) (r.I j 2) (r.I j 3)) r.n 0) _ _=_;cases anyF (fun j=> !spV (r.I j 0) (r.I j 1) (r.I j 2) (r.I j 3)) r.n 0<;>rfl
  ·rfl
 ·cases h
def p_lpc:PSt:={τ:=[.v (.sl 0)]++pu 3++[.v (.int .i64)]++pu 24,saved:=[[]],mem:=[.row [.int .i64,.int .i64,.int .i64,.int .i64] false]}
structure A_lpc where
 n:Nat
 j:Int
 r:Row
def d_lpc(its:List It):Option A_lpc:=match its with|[.n n,.i j,.r r]=>some ⟨n,j,r⟩|_=>none
def c_lpc(x:A_lpc):Bool:=x.j=1∧x.n<=1000000∧(∀i,i<x.n->rg4 x.r i=true)
def c_lpc_iff{x:A_lpc}:=@ciff _ c_lpc _ _ rfl x
def lpc:ScanL A_lpc:=⟨85,5,[0,4],[2],p_lpc,d_lpc,fun x j=>[.n x.n,.i ((j+1:Nat):Int),.r x.r],fun x=>x.n-1,c_lpc,fun x j=>decide (Rt.cpC (x.r.I j 2) (x.r.I j 3) (x.r.I (j+1) 0) (x.r.I (j+1) 1)>=0),fun x j K=>K .ret ⟨us 2++[i64 8]++us 26,[[]],[]⟩,fun x K=>K (.exit 0) ⟨us 29,[[]],[]⟩⟩
noncomputable def Cpc:Cx:=mkCx Tryz.prog fns [(134,Fall),(135,Ford)] [lpc.C]
theorem r_lpc(R:St->OD)(K:X->St->OD)(q n:Nat)(j:Int)(r:Row):bodyOf Cpc 85 5 q (bst p_lpc [.n n,.i j,.r r]) (rnd [0,4] (some [2]) R K)=br (j<(n:Int)) (br (0<=IntKind.i64.wrap (j-1)&&IntKind.i64.wrap (j-1)<(n:Int)) (br (0<=j&&j<(n:Int)) (br (Rt.iR (r.I (0+(IntKind.i64.wrap (j-1)).toNat) 2)&&Rt.iR (r.I (0+(IntKind.i64.wrap (j-1)).toNat) 3)&&Rt.iR (r.I (0+j.toNat) 0)&&Rt.iR (r.I (0+j.toNat) 1)) (br (Rt.cpC (r.I (0+(IntKind.i64.wrap (j-1)).toNat) 2) (r.I (0+(IntKind.i64.wrap (j-1)).toNat) 3) (r.I (0+j.toNat) 0) (r.I (0+j.toNat) 1)>=0) (K .ret ⟨us 2++[i64 8]++us 26,[[]],[]⟩) (R ⟨[S_ 0 0 n]++us 3++[i64 (IntKind.i64.wrap (j+1))]++us 24,[[]],[some (.row [.int .i64,.int .i64,.int .i64,.int .i64] false r)]⟩)) none) none) none) (K (.exit 0) ⟨us 29,[[]],[]⟩):=by kernel_rfl
theorem upc(r:Row):evF Cpc 6 85 [.slice [.int .i64,.int .i64,.int .i64,.int .i64] r]=br (decide ((winOf r 0 r.n).n<=1000000∧∀(i:Nat),i<(winOf r 0 r.n).n->rg4 (winOf r 0 r.n) i=true)) (br (allE (winOf r 0 r.n) !=0) (some [.v (i64 (allE (winOf r 0 r.n)))]) (br (c_lpc (⟨r.n,1,r⟩:A_lpc)) (br (anyF (fun j=>decide (Rt.cpC (r.I j 2) (r.I j 3) (r.I (j+1) 0) (r.I (j+1) 1)>=0)) (r.n-1) 0) (some [.v (i64 8)]) (some [.v (i64 0)])) none)) (none):=by kernel_rfl
theorem ok_lpc:LoopOk Cpc lpc.C:=lpc.ok (by kernel_rfl)
 (fun its x h hc=>by
  replace h:d_lpc its=some x:=h;unfold d_lpc at h;split at h
  ·cases h;obtain⟨h1,h2,h3⟩:=c_lpc_iff.1 hc;dsimp only at h1;subst h1;rfl
  ·cases h)
 (fun x hc=>by have:=c_lpc_iff.1 hc;show x.n-1<18446744073709551616;omega)
 (fun q ⟨n,j0,r⟩ j hc hi R K=>by
  obtain⟨h1,h2,h3⟩:=c_lpc_iff.1 hc;dsimp only at*
  replace hi:j<n-1:=hi;refine(r_lpc R K q n (((j+1:Nat):Int)) r).trans ?_;have k1:=h3 j (by omega);have k2:=h3 (j+1) (by omega);unfold rg4 at k1 k2;simp only[A2]at k1 k2;have e1:IntKind.i64.wrap (((j+1:Nat):Int)-1)=(j:Int):=(wrap64 (by omega) (by omega)).trans (by omega);rw[e1,A9,A9,AE,AE,gd j n (by omega),gd (j+1) n (by omega),ltd (j+1) n (by omega),wsn (by omega),k1.1.2,k1.2,k2.1.1.1,k2.1.1.2];rfl)
 (fun q ⟨n,j0,r⟩ hc R K=>by
  obtain⟨h1,h2,h3⟩:=c_lpc_iff.1 hc;dsimp only at*
  refine(r_lpc R K q n (((n-1+1:Nat):Int)) r).trans ?_;rw[AB (show¬((n-1+1:Nat):Int)<(n:Int) by omega)];rfl)
theorem Cpc_ok:CxOk Cpc:=mkCx_ok enter mixed (fun p h=>by
 simp only[A8,A7,or_false]at h;rcases h with rfl|rfl
 ·exact den_all
 ·exact den_ord) (fun l h=>by
 simp only[A8,A7,or_false]at h;rcases h with rfl;exact ok_lpc)
theorem winI(r:Row)(n:Nat):(winOf r 0 n).I=r.I:=by funext i j;rw[winOf_I,AE]
theorem rg4_win(r:Row)(n i:Nat):rg4 (winOf r 0 n) i=rg4 r i:=by unfold rg4;rw[winI]
theorem all_win(r:Row):allE (winOf r 0 r.n)=allE r:=by unfold allE;rw[winI,winOf_n]
def gapP(r:Row)(j:Nat):Bool:=Rt.cpC (r.I j 2) (r.I j 3) (r.I (j+1) 0) (r.I (j+1) 1)>=0
def pckE(r:Row):Int:=bif allE r !=0 then allE r else bif anyF (gapP r) (r.n-1) 0 then 8 else 0
def Fpck:FD
 |[.slice [.int .i64,.int .i64,.int .i64,.int .i64] r]=>some (decide (r.n<=1000000∧∀i,i<r.n->rg4 r i=true),[.v (i64 (pckE r))])
 |_=>none
theorem den_pck:Den Tryz.prog 85 Fpck:=evF_den Cpc_ok fun ds rs h=>by
 unfold Fpck at h;split at h
 ·rename_i r;simp only[A5,A6,A3]at h;obtain⟨h0,rfl⟩:=h;refine(upc r).trans ?_;rw[all_win,A4 (show(winOf r 0 r.n).n<=1000000∧∀i,i<(winOf r 0 r.n).n->rg4 (winOf r 0 r.n) i=true by rw[winOf_n];exact⟨h0.1,fun i hi=>by rw[rg4_win];exact h0.2 i hi⟩),br_true,c_lpc_iff.2 ⟨rfl,h0⟩,br_true];unfold pckE;cases allE r !=0
  ·show br (anyF (gapP r) (r.n-1) 0) _ _=_;cases anyF (gapP r) (r.n-1) 0<;>rfl
  ·rfl
 ·cases h
def p_lmn:PSt:={τ:=[.v (.sl 0)]++pu 2++[.v (.int .i64),.v (.int .i64)]++pu 20,saved:=[[]],mem:=[.row [.int .i64] false]}
structure A_lmn where
 n:Nat
 m:Int
 j:Int
 r:Row
def d_lmn(its:List It):Option A_lmn:=match its with|[.n n,.i m,.i j,.r r]=>some ⟨n,m,j,r⟩|_=>none
def c_lmn(x:A_lmn):Bool:=x.j=1∧x.n<=1000000
def c_lmn_iff{x:A_lmn}:=@ciff _ c_lmn _ _ rfl x
def lmn:FoldL A_lmn (Int):=⟨167,5,[0,3,4],[2,3],p_lmn,d_lmn,fun x j a=>[.n x.n,.i a,.i ((j+1:Nat):Int),.r x.r],fun x=>x.n-1,c_lmn,fun x=>x.m,fun x j a=>if x.r.I (j+1) 0<a then x.r.I (j+1) 0 else a,fun x a K=>K (.exit 0) ⟨us 3++[i64 ((a))]++us 21,[[]],[]⟩⟩
def p_lmx:PSt:={τ:=[.v (.sl 0)]++pu 2++[.v (.int .i64),.v (.int .i64)]++pu 20,saved:=[[]],mem:=[.row [.int .i64] false]}
structure A_lmx where
 n:Nat
 m:Int
 j:Int
 r:Row
def d_lmx(its:List It):Option A_lmx:=match its with|[.n n,.i m,.i j,.r r]=>some ⟨n,m,j,r⟩|_=>none
def c_lmx(x:A_lmx):Bool:=x.j=1∧x.n<=1000000
def c_lmx_iff{x:A_lmx}:=@ciff _ c_lmx _ _ rfl x
def lmx:FoldL A_lmx (Int):=⟨168,5,[0,3,4],[2,3],p_lmx,d_lmx,fun x j a=>[.n x.n,.i a,.i ((j+1:Nat):Int),.r x.r],fun x=>x.n-1,c_lmx,fun x=>x.m,fun x j a=>if x.r.I (j+1) 0>a then x.r.I (j+1) 0 else a,fun x a K=>K (.exit 0) ⟨us 3++[i64 ((a))]++us 21,[[]],[]⟩⟩
noncomputable def Cmn:Cx:=mkCx Tryz.prog fns [] [lmn.C,lmx.C]
theorem r_lmn(R:St->OD)(K:X->St->OD)(q n:Nat)(m j:Int)(r:Row):bodyOf Cmn 167 5 q (bst p_lmn [.n n,.i m,.i j,.r r]) (rnd [0,3,4] (some [2,3]) R K)=br (j<(n:Int)) (br (0<=j&&j<(n:Int)) (R ⟨[S_ 0 0 n]++us 2++[i64 (if r.I (0+j.toNat) 0<m then r.I (0+j.toNat) 0 else m),i64 (IntKind.i64.wrap (j+1))]++us 20,[[]],[some (.row [.int .i64] false r)]⟩) none) (K (.exit 0) ⟨us 3++[i64 m]++us 21,[[]],[]⟩):=by kernel_rfl
theorem r_lmx(R:St->OD)(K:X->St->OD)(q n:Nat)(m j:Int)(r:Row):bodyOf Cmn 168 5 q (bst p_lmx [.n n,.i m,.i j,.r r]) (rnd [0,3,4] (some [2,3]) R K)=br (j<(n:Int)) (br (0<=j&&j<(n:Int)) (R ⟨[S_ 0 0 n]++us 2++[i64 (if r.I (0+j.toNat) 0>m then r.I (0+j.toNat) 0 else m),i64 (IntKind.i64.wrap (j+1))]++us 20,[[]],[some (.row [.int .i64] false r)]⟩) none) (K (.exit 0) ⟨us 3++[i64 m]++us 21,[[]],[]⟩):=by kernel_rfl
theorem umn(r:Row):evF Cmn 6 167 [.slice ksI r]=br ((r.n:Int)<1) none (br ((0:Int)<=0&&0<(r.n:Int)) (br (c_lmn (⟨r.n,r.I 0 0,1,r⟩:A_lmn)) (some [.v (i64 (fldN (fun j a=>if r.I (j+1) 0<a then r.I (j+1) 0 else a) (r.n-1) 0 (r.I 0 0)))]) none) none):=by kernel_rfl
theorem umx(r:Row):evF Cmn 6 168 [.slice ksI r]=br ((r.n:Int)<1) none (br ((0:Int)<=0&&0<(r.n:Int)) (br (c_lmx (⟨r.n,r.I 0 0,1,r⟩:A_lmx)) (some [.v (i64 (fldN (fun j a=>if r.I (j+1) 0>a then r.I (j+1) 0 else a) (r.n-1) 0 (r.I 0 0)))]) none) none):=by kernel_rfl
theorem ok_lmn:LoopOk Cmn lmn.C:=lmn.ok (fun x j a=>True) (by kernel_rfl)
 (fun its x h hc=>by
  replace h:d_lmn its=some x:=h;unfold d_lmn at h;split at h
  ·cases h;obtain⟨h1,h2⟩:=c_lmn_iff.1 hc;dsimp only at h1;subst h1;rfl
  ·cases h)
 (fun x hc=>by have:=c_lmn_iff.1 hc;show x.n-1<18446744073709551616;omega)
 (fun x hc=>by
  trivial)
 (fun x j a hc hi hI=>by
  trivial)
 (fun q ⟨n,m0,j0,r⟩ j a hc hi hI R K=>by
  obtain⟨h1,h2⟩:=c_lmn_iff.1 hc;dsimp only at*
  replace hi:j<n-1:=hi;refine(r_lmn R K q n ((a)) (((j+1:Nat):Int)) r).trans ?_;rw[A9,AE,gd (j+1) n (by omega),ltd (j+1) n (by omega),wsn (by omega)];rfl)
 (fun q ⟨n,m0,j0,r⟩ a hc hI R K=>by
  obtain⟨h1,h2⟩:=c_lmn_iff.1 hc;dsimp only at*
  refine(r_lmn R K q n ((a)) (((n-1+1:Nat):Int)) r).trans ?_;rw[AB (show¬((n-1+1:Nat):Int)<(n:Int) by omega)];rfl)
theorem ok_lmx:LoopOk Cmn lmx.C:=lmx.ok (fun x j a=>True) (by kernel_rfl)
 (fun its x h hc=>by
  replace h:d_lmx its=some x:=h;unfold d_lmx at h;split at h
  ·cases h;obtain⟨h1,h2⟩:=c_lmx_iff.1 hc;dsimp only at h1;subst h1;rfl
  ·cases h)
 (fun x hc=>by have:=c_lmx_iff.1 hc;show x.n-1<18446744073709551616;omega)
 (fun x hc=>by
  trivial)
 (fun x j a hc hi hI=>by
  trivial)
 (fun q ⟨n,m0,j0,r⟩ j a hc hi hI R K=>by
  obtain⟨h1,h2⟩:=c_lmx_iff.1 hc;dsimp only at*
  replace hi:j<n-1:=hi;refine(r_lmx R K q n ((a)) (((j+1:Nat):Int)) r).trans ?_;rw[A9,AE,gd (j+1) n (by omega),ltd (j+1) n (by omega),wsn (by omega)];rfl)
 (fun q ⟨n,m0,j0,r⟩ a hc hI R K=>by
  obtain⟨h1,h2⟩:=c_lmx_iff.1 hc;dsimp only at*
  refine(r_lmx R K q n ((a)) (((n-1+1:Nat):Int)) r).trans ?_;rw[AB (show¬((n-1+1:Nat):Int)<(n:Int) by omega)];rfl)
theorem Cmn_ok:CxOk Cmn:=mkCx_ok enter mixed (fun p h=>by cases h) (fun l h=>by
 simp only[A8,A7,or_false]at h;rcases h with rfl|rfl
 ·exact ok_lmn
 ·exact ok_lmx)
def minI(r:Row):Int:=fldN (fun j a=>if r.I (j+1) 0<a then r.I (j+1) 0 else a) (r.n-1) 0 (r.I 0 0)
def maxI(r:Row):Int:=fldN (fun j a=>if r.I (j+1) 0>a then r.I (j+1) 0 else a) (r.n-1) 0 (r.I 0 0)
def Fmn:FD
 |[.slice [.int .i64] r]=>some (1<=r.n∧r.n<=1000000,[.v (i64 (minI r))])
 |_=>none
def Fmx:FD
 |[.slice [.int .i64] r]=>some (1<=r.n∧r.n<=1000000,[.v (i64 (maxI r))])
 |_=>none
theorem den_mn:Den Tryz.prog 167 Fmn:=evF_den Cmn_ok fun ds rs h=>by
 unfold Fmn at h;split at h
 ·rename_i r;simp only[A5,A6,A3]at h;obtain⟨⟨h0,h1⟩,rfl⟩:=h;refine(umn r).trans ?_;rw[AB (show¬(r.n:Int)<1 by omega),show(decide ((0:Int)<=0)&&decide (0<(r.n:Int)))=true by simp;omega,c_lmn_iff.2 ⟨rfl,h1⟩,br_false,br_true,br_true];rfl
 ·cases h
theorem den_mx:Den Tryz.prog 168 Fmx:=evF_den Cmn_ok fun ds rs h=>by
 unfold Fmx at h;split at h
 ·rename_i r;simp only[A5,A6,A3]at h;obtain⟨⟨h0,h1⟩,rfl⟩:=h;refine(umx r).trans ?_;rw[AB (show¬(r.n:Int)<1 by omega),show(decide ((0:Int)<=0)&&decide (0<(r.n:Int)))=true by simp;omega,c_lmx_iff.2 ⟨rfl,h1⟩,br_false,br_true,br_true];rfl
 ·cases h
def p_lck:PSt:={τ:=pu 1++[.v (.c (.pointer (some ⟨0,0,some 0⟩)))]++pu 47++[.v (.int .i64),.v (.int .i64)]++pu 31,saved:=[[]],mem:=[.box [.v (.int .i64),.v (.sl 1),.v (.sl 2)],.row [.int .i64] false,.row [.int .i64] false]}
structure A_lck where
 m:Int
 j:Int
 l:Int
 pn:Nat
 qn:Nat
 p:Row
 q0:Row
def d_lck(its:List It):Option A_lck:=match its with|[.i m,.i j,.i l,.n pn,.n qn,.r p,.r q0]=>some ⟨m,j,l,pn,qn,p,q0⟩|_=>none
def c_lck(x:A_lck):Bool:=x.j=0∧x.m=(x.pn:Int)-1∧1<=x.pn∧x.pn<=1000000
def c_lck_iff{x:A_lck}:=@ciff _ c_lck _ _ rfl x
def lck:ScanL A_lck:=⟨133,7,[1,49,50],[1,2],p_lck,d_lck,fun x j=>[.i x.m,.i (j:Int),.i x.l,.n x.pn,.n x.qn,.r x.p,.r x.q0],fun x=>x.pn-1,c_lck,fun x j=>decide (x.p.I j 0>=x.p.I (j+1) 0),fun x j K=>K .ret ⟨us 1++[.pointer (some ⟨0,0,some 0⟩),i64 8]++us 79,[[]],[some (.box [i64 x.l,S_ 1 0 x.pn,S_ 2 0 x.qn]),some (.row [.int .i64] false x.p),some (.row [.int .i64] false x.q0)]⟩,fun x K=>K (.exit 0) ⟨us 1++[.pointer (some ⟨0,0,some 0⟩)]++us 80,[[]],[some (.box [i64 x.l,S_ 1 0 x.pn,S_ 2 0 x.qn]),some (.row [.int .i64] false x.p),some (.row [.int .i64] false x.q0)]⟩⟩
noncomputable def Cck:Cx:=mkCx Tryz.prog fns [(167,Fmn),(168,Fmx)] [lck.C]
theorem r_lck(R:St->OD)(K:X->St->OD)(q:Nat)(m j l:Int)(pn qn:Nat)(p q0:Row):bodyOf Cck 133 7 q (bst p_lck [.i m,.i j,.i l,.n pn,.n qn,.r p,.r q0]) (rnd [1,49,50] (some [1,2]) R K)=br (j<m) (br (0<=j&&j<(pn:Int)) (br (0<=IntKind.i64.wrap (j+1)&&IntKind.i64.wrap (j+1)<(pn:Int)) (br (p.I (0+j.toNat) 0>=p.I (0+(IntKind.i64.wrap (j+1)).toNat) 0) (K .ret ⟨us 1++[.pointer (some ⟨0,0,some 0⟩),i64 8]++us 79,[[]],[some (.box [i64 l,S_ 1 0 pn,S_ 2 0 qn]),some (.row [.int .i64] false p),some (.row [.int .i64] false q0)]⟩) (R ⟨us 1++[.pointer (some ⟨0,0,some 0⟩)]++us 47++[i64 m,i64 (IntKind.i64.wrap (j+1))]++us 31,[[]],[some (.box [i64 l,S_ 1 0 pn,S_ 2 0 qn]),some (.row [.int .i64] false p),some (.row [.int .i64] false q0)]⟩)) none) none) (K (.exit 0) ⟨us 1++[.pointer (some ⟨0,0,some 0⟩)]++us 80,[[]],[some (.box [i64 l,S_ 1 0 pn,S_ 2 0 qn]),some (.row [.int .i64] false p),some (.row [.int .i64] false q0)]⟩):=by kernel_rfl
theorem uck(l:Int)(p q:Row):evF Cck 6 133 [.agg [.v (i64 l),.slice ksI p,.slice ksI q]]=br (l>1000) (some [.v (i64 4)]) (br ((p.n:Int)>40) (some [.v (i64 4)]) (br (l<1) (some [.v (i64 8)]) (br ((p.n:Int)<2) (some [.v (i64 8)]) (br ((q.n:Int) !=IntKind.i64.wrap ((p.n:Int)-1)) (some [.v (i64 8)]) (br ((0:Int)<=0&&0<(p.n:Int)) (br (p.I 0 0 !=0) (some [.v (i64 8)]) (br (0<=IntKind.i64.wrap ((p.n:Int)-1)&&IntKind.i64.wrap ((p.n:Int)-1)<(p.n:Int)) (br (p.I (0+(IntKind.i64.wrap ((p.n:Int)-1)).toNat) 0 !=l) (some [.v (i64 8)]) (br (c_lck (⟨IntKind.i64.wrap ((p.n:Int)-1),0,l,p.n,q.n,p,q⟩:A_lck)) (br (anyF (fun j=>decide (p.I j 0>=p.I (j+1) 0)) (p.n-1) 0) (some [.v (i64 8)]) (br (decide (1<=(winOf q 0 q.n).n∧(winOf q 0 q.n).n<=1000000)) (br (minI (winOf q 0 q.n)<0) (some [.v (i64 8)]) (br (decide (1<=(winOf q 0 q.n).n∧(winOf q 0 q.n).n<=1000000)) (br (maxI (winOf q 0 q.n)>12) (some [.v (i64 8)]) (br (decide (1<=(winOf q 0 q.n).n∧(winOf q 0 q.n).n<=1000000)) (br (maxI (winOf q 0 q.n)==0) (some [.v (i64 8)]) (some [.v (i64 0)])) none)) none)) none)) none)) none)) none))))):=by kernel_rfl
theorem ok_lck:LoopOk Cck lck.C:=lck.ok (by kernel_rfl)
 (fun its x h hc=>by
  replace h:d_lck its=some x:=h;unfold d_lck at h;split at h
  ·cases h;obtain⟨h1,h2,h3,h4⟩:=c_lck_iff.1 hc;dsimp only at h1 h2;subst h1 h2;rfl
  ·cases h)
 (fun x hc=>by have:=c_lck_iff.1 hc;show x.pn-1<18446744073709551616;omega)
 (fun q ⟨m,j0,l,pn,qn,p,q0⟩ j hc hi R K=>by
  obtain⟨h1,h2,h3,h4⟩:=c_lck_iff.1 hc;dsimp only at*
  replace hi:j<pn-1:=hi;refine(r_lck R K q m ((j:Int)) l pn qn p q0).trans ?_;rw[h2,show(IntKind.i64.wrap ((j:Int)+1))=((j+1:Nat):Int)from(wrap64 (by omega) (by omega)).trans (by omega),A9,A9,AE,AE,gd j pn (by omega),gd (j+1) pn (by omega),A4 (show(j:Int)<(pn:Int)-1 by omega)];rfl)
 (fun q ⟨m,j0,l,pn,qn,p,q0⟩ hc R K=>by
  obtain⟨h1,h2,h3,h4⟩:=c_lck_iff.1 hc;dsimp only at*
  refine(r_lck R K q m (((pn-1:Nat):Int)) l pn qn p q0).trans ?_;rw[h2,AB (show¬((pn-1:Nat):Int)<(pn:Int)-1 by omega)];rfl)
theorem Cck_ok:CxOk Cck:=mkCx_ok enter mixed (fun p h=>by
 simp only[A8,A7,or_false]at h;rcases h with rfl|rfl
 ·exact den_mn
 ·exact den_mx) (fun l h=>by
 simp only[A8,A7,or_false]at h;rcases h with rfl;exact ok_lck)
theorem br_e{c:Bool}{a t:Int}{T:OD}(h:c=false->T=some [.v (i64 t)]):br c (some [.v (i64 a)]) T=some [.v (i64 (bif c then a else t))]:=by
 cases c
 ·exact h rfl
 ·rfl
theorem br_g{c:Bool}{T r:OD}(hc:c=true)(h:T=r):br c T none=r:=by rw[hc];exact h
def ordB(p:Row):Bool:=anyF (fun j=>decide (p.I j 0>=p.I (j+1) 0)) (p.n-1) 0
def cakE(l:Int)(p q:Row):Int:=bif l>1000 then 4 else bif (p.n:Int)>40 then 4 else bif l<1 then 8 else bif (p.n:Int)<2 then 8 else bif (q.n:Int) !=(p.n:Int)-1 then 8 else bif p.I 0 0 !=0 then 8 else bif p.I (p.n-1) 0 !=l then 8 else bif ordB p then 8 else bif minI q<0 then 8 else bif maxI q>12 then 8 else bif maxI q==0 then 8 else 0
def Fcak:FD
 |[.agg [.v (.int .i64 l),.slice [.int .i64] p,.slice [.int .i64] q]]=>some (p.n<=1000000∧q.n<=1000000,[.v (i64 (cakE l p q))])
 |_=>none
theorem den_cak:Den Tryz.prog 133 Fcak:=evF_den Cck_ok fun ds rs h=>by
 unfold Fcak at h;split at h
 ·rename_i l p q;simp only[A5,A6,A3]at h;obtain⟨⟨hp,hq⟩,rfl⟩:=h;refine(uck l p q).trans ?_;rw[show IntKind.i64.wrap ((p.n:Int)-1)=(p.n:Int)-1 from wrap64 (by omega) (by omega)];refine br_e fun h1=>br_e fun h2=>br_e fun h3=>br_e fun h4=>br_e fun h5=>?_;have k4:¬(p.n:Int)<2:=AO h4;have k5:(q.n:Int)=(p.n:Int)-1:=by simpa using h5
  have e1:((p.n:Int)-1).toNat=p.n-1:=by omega
  refine br_g (by simp;omega) (br_e fun h6=>br_g (by simp;omega) ?_);rw[e1,AE];refine br_e fun h7=>br_g (c_lck_iff.2 ⟨rfl,rfl,by show 1<=p.n;omega,hp⟩) (br_e fun h8=>?_);have w:decide (1<=(winOf q 0 q.n).n∧(winOf q 0 q.n).n<=1000000)=true:=A4 (by rw[winOf_n];omega);exact br_g w (br_e fun h9=>br_g w (br_e fun h10=>br_g w (br_e fun h11=>rfl)))
 ·cases h
end Go.Proofs.YtkcnkimndhgkgaaGreatDoor

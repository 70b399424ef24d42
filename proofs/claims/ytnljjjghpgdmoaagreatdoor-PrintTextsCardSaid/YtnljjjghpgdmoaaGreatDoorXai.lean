/- A part of the proof of PrintTexts. No conditions. -/
import Derived.Test.YtnljjjghpgdmoaaGreatDoorXah
import Derived.RangeFuncBox
import Derived.RangeFuncLeaves
import Derived.Shelf.Abstract
import Derived.WalkKit
import Derived.OwnWalkIn
import Derived.TacticsInMore
import Derived.LoopNIn
import Derived.LoopIn
import Derived.Maps.AppendAt
import Derived.Lib.ItoaMem
import Derived.Lib.ParseIntB
import Derived.Lib.IndexMore
set_option linter.all false
namespace Go.Proofs.YtnljjjghpgdmoaaGreatDoor.Rt
open Go.Ev
set_option maxRecDepth 100000
def u64(n:Int):Value:=.int .u64 n
def uR(n:Int):Bool:=decide (0<=n)&&decide (n<18446744073709551616)
def uR_iff{n:Int}:uR n=true↔0<=n∧n<18446744073709551616:=by simp[uR]
def iR(n:Int):Bool:=decide (-9223372036854775808<=n)&&decide (n<9223372036854775808)
def iR_iff{n:Int}:iR n=true↔-9223372036854775808<=n∧n<9223372036854775808:=by simp[iR]
def wrapU(n:Int):IntKind.u64.wrap n=n%18446744073709551616:=by
 simp[IntKind.wrap,IntKind.signed,IntKind.bits]
def Afc(n:Int):IntKind.i64.wrap n=(n+9223372036854775808)%18446744073709551616-9223372036854775808:=by
 simp only[IntKind.wrap,IntKind.signed,IntKind.bits]
 first|omega|(simp;omega)
def wrapU_id{n:Int}(h0:0<=n)(h1:n<18446744073709551616):IntKind.u64.wrap n=n:=by rw[wrapU];omega
def V4(a:Int)(h0:0<=a)(h1:a<18446744073709551616):IntKind.u64.wrap ((BitVec.ofInt 64 a&&&BitVec.ofInt 64 4294967295).toNat:Int)=a%4294967296:=by
 obtain⟨n,rfl⟩:∃n:Nat,a=n:=⟨a.toNat,o_⟩;have hn:n<2^64:=o_;rw[BitVec.toNat_and,BitVec.ofInt_natCast,BitVec.toNat_ofNat,Nat.mod_eq_of_lt hn,show(BitVec.ofInt 64 4294967295).toNat=2^32-1 from rfl,Nat.and_two_pow_sub_one_eq_mod];rw[wrapU_id o_ o_];omega
def Qe(a:Int)(h0:0<=a):a.fdiv (2^32)=a/4294967296:=by
 rw[Int.fdiv_eq_ediv_of_nonneg _ d_];rfl
def orN(k m:Nat)(hm:m<4294967296):k*4294967296|||m=k*4294967296+m:=by
 have p:(2:Nat)^32=4294967296:=d_;have e:k*4294967296=k<<<32:=by rw[Nat.shiftLeft_eq,p]
 rw[e,<-Nat.shiftLeft_add_eq_or_of_lt (by rw[p];exact hm)]
def orM(a b:Int)(h0:0<=a)(h1:a<18446744073709551616)(h2:a%4294967296=0)(h3:0<=b)(h4:b<4294967296):IntKind.u64.wrap ((BitVec.ofInt 64 a|||BitVec.ofInt 64 b).toNat:Int)=a+b:=by
 obtain⟨k,rfl⟩:∃k:Nat,a=((k*4294967296:Nat):Int):=⟨(a/4294967296).toNat,o_⟩;obtain⟨m,rfl⟩:∃m:Nat,b=m:=⟨b.toNat,o_⟩;have ea:(BitVec.ofInt 64 ((k*4294967296:Nat):Int)).toNat=k*4294967296:=by
  rw[BitVec.ofInt_natCast,BitVec.toNat_ofNat];exact Nat.mod_eq_of_lt o_
 have eb:(BitVec.ofInt 64 (m:Int)).toNat=m:=by
  rw[BitVec.ofInt_natCast,BitVec.toNat_ofNat];exact Nat.mod_eq_of_lt o_
 have hm:m<4294967296:=o_;rw[BitVec.toNat_or,ea,eb,orN k m hm];clear ea eb;generalize hw:k*4294967296=w at*
 rw[wrapU_id (n:=((w+m:Nat):Int)) (Int.natCast_nonneg _) o_];exact Int.natCast_add _ _
def gcdI(a b:Int):Int:=(Nat.gcd a.toNat b.toNat:Nat)
def ZI(a:Int)(h:0<=a):gcdI a 0=a:=by
 unfold gcdI;rw[show(0:Int).toNat=0 from rfl,Nat.gcd_zero_right];omega
def aQ(a b:Int)(ha:0<=a)(hb:0<b):gcdI a b=gcdI b (a.tmod b):=by
 unfold gcdI;have e:(a.tmod b).toNat=a.toNat%b.toNat:=by
  rw[Int.tmod_eq_emod_of_nonneg ha];obtain⟨n,rfl⟩:∃n:Nat,a=n:=⟨a.toNat,o_⟩;obtain⟨m,rfl⟩:∃m:Nat,b=m:=⟨b.toNat,o_⟩;rw[<-Int.natCast_emod];rfl
 rw[e,Nat.gcd_comm b.toNat,Nat.gcd_comm a.toNat,Nat.gcd_rec]
def absI(n:Int):Int:=if n<0 then-n else n
def Rn(x y:Int)(hx:0<=x)(hx1:x<18446744073709551616)(hy:0<=y)(hy1:y<18446744073709551616):
  ∃p00 p01 p10 p11:Int,p00=(x%4294967296)*(y%4294967296)∧p01=(x%4294967296)*(y/4294967296)∧p10=(x/4294967296)*(y%4294967296)∧p11=(x/4294967296)*(y/4294967296)∧
   (0<=p00∧p00<=18446744065119617025)∧(0<=p01∧p01<=18446744065119617025)∧(0<=p10∧p10<=18446744065119617025)∧(0<=p11∧p11<=18446744065119617025)∧x*y=p11*18446744073709551616+(p10+p01)*4294967296+p00:=by
 have b:∀u v:Int,0<=u->u<=4294967295->0<=v->v<=4294967295->0<=u*v∧u*v<=18446744065119617025:=fun u v h1 h2 h3 h4=>⟨Int.mul_nonneg h1 h3,by
  have:=Int.mul_le_mul h2 h4 h3 d_;omega⟩
 refine⟨_,_,_,_,rfl,rfl,rfl,rfl,b _ _ o_ o_ o_ o_,b _ _ o_ o_ o_ o_,b _ _ o_ o_ o_ o_,b _ _ o_ o_ o_ o_,?_⟩;have ex:x=(x/4294967296)*4294967296+x%4294967296:=o_;have ey:y=(y/4294967296)*4294967296+y%4294967296:=o_;generalize x/4294967296=x1 at*
 generalize x%4294967296=x0 at*
 generalize y/4294967296=y1 at*
 generalize y%4294967296=y0 at*
 rw[ex,ey,Int.add_mul,Int.mul_add,Int.mul_add];have h1:x1*4294967296*(y1*4294967296)=x1*y1*18446744073709551616:=by
  rw[Int.mul_assoc,Int.mul_comm 4294967296,Int.mul_assoc y1,<-Int.mul_assoc];rfl
 have h2:x1*4294967296*y0=x1*y0*4294967296:=by rw[Int.mul_assoc,Int.mul_comm 4294967296,<-Int.mul_assoc]
 have h3:x0*(y1*4294967296)=x0*y1*4294967296:=by rw[<-Int.mul_assoc]
 rw[h1,h2,h3,Int.add_mul];omega
noncomputable def C0:Cx:=AP Tryz.prog fns [] []
def JF:Be C0:=Aj enter mixed AX AX
def Anq(n:Int):BH C0 6 123 [.v (i64 n)]=br (n<0) (some [.v (.int .u64 (IntKind.u64.wrap (0-IntKind.u64.wrap n)))]) (some [.v (.int .u64 (IntKind.u64.wrap n))]):=k_
def tabs(n:Int):BH C0 6 137 [.v (i64 n)]=br (n<0) (some [.v (.int .u64 (IntKind.u64.wrap (IntKind.u64.wrap (IntKind.i64.wrap (0-IntKind.i64.wrap (n+1)))+1)))]) (some [.v (.int .u64 (IntKind.u64.wrap n))]):=k_
def Aqv(x y:Int):BH C0 6 162 [.v (u64 x),.v (u64 y)]=some [.v (.int .u64 (IntKind.u64.wrap (IntKind.u64.wrap (IntKind.u64.wrap (x.fdiv (2^32)*y.fdiv (2^32))+(IntKind.u64.wrap (IntKind.u64.wrap (x.fdiv (2^32)*IntKind.u64.wrap (↑(BitVec.ofInt 64 y&&&BitVec.ofInt 64 4294967295).toNat:Int))+(IntKind.u64.wrap (IntKind.u64.wrap (↑(BitVec.ofInt 64 x&&&BitVec.ofInt 64 4294967295).toNat:Int)*IntKind.u64.wrap (↑(BitVec.ofInt 64 y&&&BitVec.ofInt 64 4294967295).toNat:Int))).fdiv (2^32))).fdiv (2^32))+(IntKind.u64.wrap (IntKind.u64.wrap (↑(BitVec.ofInt 64 (IntKind.u64.wrap (IntKind.u64.wrap (x.fdiv (2^32)*IntKind.u64.wrap (↑(BitVec.ofInt 64 y&&&BitVec.ofInt 64 4294967295).toNat:Int))+(IntKind.u64.wrap (IntKind.u64.wrap (↑(BitVec.ofInt 64 x&&&BitVec.ofInt 64 4294967295).toNat:Int)*IntKind.u64.wrap (↑(BitVec.ofInt 64 y&&&BitVec.ofInt 64 4294967295).toNat:Int))).fdiv (2^32)))&&&BitVec.ofInt 64 4294967295).toNat:Int)+IntKind.u64.wrap (IntKind.u64.wrap (↑(BitVec.ofInt 64 x&&&BitVec.ofInt 64 4294967295).toNat:Int)*y.fdiv (2^32)))).fdiv (2^32)))),.v (.int .u64 (IntKind.u64.wrap (x*y)))]:=k_
def Alp(x y:Int):BH C0 6 170 [.v (u64 x),.v (u64 y)]=some [.agg [.v (.int .u64 (IntKind.u64.wrap (IntKind.u64.wrap (IntKind.u64.wrap (x.fdiv (2^32)*y.fdiv (2^32))+(IntKind.u64.wrap (x.fdiv (2^32)*IntKind.u64.wrap (↑(BitVec.ofInt 64 y&&&BitVec.ofInt 64 4294967295).toNat:Int))).fdiv (2^32))+(IntKind.u64.wrap (IntKind.u64.wrap (IntKind.u64.wrap (↑(BitVec.ofInt 64 (IntKind.u64.wrap (x.fdiv (2^32)*IntKind.u64.wrap (↑(BitVec.ofInt 64 y&&&BitVec.ofInt 64 4294967295).toNat:Int)))&&&BitVec.ofInt 64 4294967295).toNat:Int)+IntKind.u64.wrap (IntKind.u64.wrap (↑(BitVec.ofInt 64 x&&&BitVec.ofInt 64 4294967295).toNat:Int)*y.fdiv (2^32)))+(IntKind.u64.wrap (IntKind.u64.wrap (↑(BitVec.ofInt 64 x&&&BitVec.ofInt 64 4294967295).toNat:Int)*IntKind.u64.wrap (↑(BitVec.ofInt 64 y&&&BitVec.ofInt 64 4294967295).toNat:Int))).fdiv (2^32))).fdiv (2^32)))),.v (.int .u64 (IntKind.u64.wrap (↑(BitVec.ofInt 64 (IntKind.u64.wrap (IntKind.u64.wrap (IntKind.u64.wrap (IntKind.u64.wrap (↑(BitVec.ofInt 64 (IntKind.u64.wrap (x.fdiv (2^32)*IntKind.u64.wrap (↑(BitVec.ofInt 64 y&&&BitVec.ofInt 64 4294967295).toNat:Int)))&&&BitVec.ofInt 64 4294967295).toNat:Int)+IntKind.u64.wrap (IntKind.u64.wrap (↑(BitVec.ofInt 64 x&&&BitVec.ofInt 64 4294967295).toNat:Int)*y.fdiv (2^32)))+(IntKind.u64.wrap (IntKind.u64.wrap (↑(BitVec.ofInt 64 x&&&BitVec.ofInt 64 4294967295).toNat:Int)*IntKind.u64.wrap (↑(BitVec.ofInt 64 y&&&BitVec.ofInt 64 4294967295).toNat:Int))).fdiv (2^32))*2^32))|||BitVec.ofInt 64 (IntKind.u64.wrap (↑(BitVec.ofInt 64 (IntKind.u64.wrap (IntKind.u64.wrap (↑(BitVec.ofInt 64 x&&&BitVec.ofInt 64 4294967295).toNat:Int)*IntKind.u64.wrap (↑(BitVec.ofInt 64 y&&&BitVec.ofInt 64 4294967295).toNat:Int)))&&&BitVec.ofInt 64 4294967295).toNat:Int))).toNat:Int)))]]:=k_
def Sg(a b:Int):St:=⟨[.int .u64 a,.int .u64 b]++us 10,[[]],[]⟩
def Sgx(a:Int):St:=⟨[.int .u64 a]++us 11,[[]],[]⟩
def Gg:List It->(X->St->OD)->OD
 |[.i a,.i b],k=>br (decide (0<=a)&&decide (0<=b)&&decide (b<18446744073709551616)) (k (.exit 0) (Sgx (gcdI a b))) none
 |_,_=>none
def lg(f:FuncId):LoopC where
 f:=f
 id:=1
 lv:=[0,1]
 lx:=[0,4]
 p:={τ:=[.v (.int .u64),.v (.int .u64)]++pu 10,saved:=[[]],mem:=[]}
 G:=Gg
noncomputable def Cg:Cx:=AP Tryz.prog fns [] [lg 124,lg 136]
def Amm(q:Nat)(R:St->OD)(K:X->St->OD)(a b:Int):AA Cg 124 true (inl Cg (q+4)) (Cm Cg.P 124 1) (Sg a b) (BF [0,1] (some [0,4]) R K)=br (b>0) (br (b=0) none (R (Sg b (a.tmod b)))) (K (.exit 0) (Sgx a)):=k_
def Ajd(q:Nat)(R:St->OD)(K:X->St->OD)(a b:Int):AA Cg 136 true (inl Cg (q+4)) (Cm Cg.P 136 1) (Sg a b) (BF [0,1] (some [0,4]) R K)=br (b !=0) (br (b=0) none (R (Sg b (a.tmod b)))) (K (.exit 0) (Sgx a)):=k_
def Wj{f:St->(X->St->OD)->OD}(hr:∀a b R K,0<=b->f (Sg a b) (BF [0,1] (some [0,4]) R K)=if b=0 then K (.exit 0) (Sgx a)else R (Sg b (a.tmod b)))(K:X->St->OD):
  ∀(n:Nat)(a b:Int),0<=a->0<=b->b<n->rounds [0,1] (some [0,4]) f n (Sg a b) K=K (.exit 0) (Sgx (gcdI a b))
 |0,a,b,_,h1,h2=>by omega
 |n+1,a,b,h0,h1,h2=>by
  rw[DF,hr _ _ _ _ h1];by_cases hb:b=0
  ·rw[AM hb,hb,ZI a h0]
  ·rw[AL hb,aQ a b h0 o_];have h3:0<=a.tmod b:=Int.tmod_nonneg _ h0;have h4:a.tmod b<b:=Int.tmod_lt_of_pos _ o_;exact Wj hr K n b (a.tmod b) h1 h3 o_
def Ane:Ah Cg (lg 124):=⟨k_,fun q its k rr h=>by
 show rounds [0,1] (some [0,4]) (AA Cg 124 true (inl Cg (q+4)) (Cm Cg.P 124 1)) 18446744073709551616 (bst (lg 124).p its) k=some rr;change Gg its k=some rr at h;unfold Gg at h;split at h
 ·rename_i a b;rcases CY h with⟨h1,h2⟩|⟨_,h2⟩
  ·simp only[A2,A3]at h1;rw[<-h2];exact Wj (fun a b R K hb=>by
    rw[Amm];by_cases h0:b=0
    ·rw[AM h0,show decide (b>0)=false from AB o_];rfl
    ·rw[AL h0,show decide (b>0)=true from A4 o_,AB h0];rfl) k 18446744073709551616 a b h1.1.1 h1.1.2 (by have:=h1.2;exact this)
  ·cases h2
 ·cases h⟩
def Apg:Ah Cg (lg 136):=⟨k_,fun q its k rr h=>by
 show rounds [0,1] (some [0,4]) (AA Cg 136 true (inl Cg (q+4)) (Cm Cg.P 136 1)) 18446744073709551616 (bst (lg 136).p its) k=some rr;change Gg its k=some rr at h;unfold Gg at h;split at h
 ·rename_i a b;rcases CY h with⟨h1,h2⟩|⟨_,h2⟩
  ·simp only[A2,A3]at h1;rw[<-h2];exact Wj (fun a b R K hb=>by
    rw[Ajd];by_cases h0:b=0
    ·rw[AM h0,show(b !=0)=false by simpa using h0];rfl
    ·rw[AL h0,show(b !=0)=true by simpa using h0,AB h0];rfl) k 18446744073709551616 a b h1.1.1 h1.1.2 (by have:=h1.2;exact this)
  ·cases h2
 ·cases h⟩
def Afr:Be Cg:=Aj enter mixed AX (Aw Ane<|Aw Apg AX)
def RH:FD
 |[.v (.int .u64 a),.v (.int .u64 b)]=>some (uR a&&uR b,[.v (u64 (gcdI a b))])
 |_=>none
def tg(a b:Int):BH Cg 6 124 [.v (u64 a),.v (u64 b)]=br (0<=a&&0<=b&&b<18446744073709551616) (some [.v (u64 (gcdI a b))]) none:=k_
def th(a b:Int):BH Cg 6 136 [.v (u64 a),.v (u64 b)]=br (0<=a&&0<=b&&b<18446744073709551616) (some [.v (u64 (gcdI a b))]) none:=k_
def Tn:Den Tryz.prog 124 RH:=Af Afr fun ds rs h=>by
 unfold RH at h;split at h
 ·rename_i a b;simp only[A5,A6,A2,uR_iff]at h;obtain⟨⟨h1,h2⟩,rfl⟩:=h;refine(tg a b).trans ?_;rw[show(decide (0<=a)&&decide (0<=b)&&decide (b<18446744073709551616))=true by simp only[A2,A3];omega];rfl
 ·cases h
def Uy:Den Tryz.prog 136 RH:=Af Afr fun ds rs h=>by
 unfold RH at h;split at h
 ·rename_i a b;simp only[A5,A6,A2,uR_iff]at h;obtain⟨⟨h1,h2⟩,rfl⟩:=h;refine(th a b).trans ?_;rw[show(decide (0<=a)&&decide (0<=b)&&decide (b<18446744073709551616))=true by simp only[A2,A3];omega];rfl
 ·cases h
def JB:FD
 |[.v (.int .i64 n)]=>some (iR n,[.v (u64 (absI n))])
 |_=>none
def P6:Den Tryz.prog 123 JB:=Af JF fun ds rs h=>by
 unfold JB at h;split at h
 ·rename_i n;simp only[A5,A6,iR_iff]at h;obtain⟨h1,rfl⟩:=h;refine(Anq n).trans ?_;unfold absI;by_cases hn:n<0
  ·rw[AM hn,A4 hn,show IntKind.u64.wrap (0-IntKind.u64.wrap n)= -n by simp only[wrapU];omega];rfl
  ·rw[AL hn,AB hn,show IntKind.u64.wrap n=n by simp only[wrapU];omega];rfl
 ·cases h
def SB:Den Tryz.prog 137 JB:=Af JF fun ds rs h=>by
 unfold JB at h;split at h
 ·rename_i n;simp only[A5,A6,iR_iff]at h;obtain⟨h1,rfl⟩:=h;refine(tabs n).trans ?_;unfold absI;by_cases hn:n<0
  ·rw[AM hn,A4 hn,show IntKind.u64.wrap (IntKind.u64.wrap (IntKind.i64.wrap (0-IntKind.i64.wrap (n+1)))+1)= -n by simp only[wrapU,Afc];omega];rfl
  ·rw[AL hn,AB hn,show IntKind.u64.wrap n=n by simp only[wrapU];omega];rfl
 ·cases h
def Ag3:FD
 |[.v (.int .u64 x),.v (.int .u64 y)]=>some (uR x&&uR y,[.v (u64 (x*y/18446744073709551616)),.v (u64 (x*y%18446744073709551616))])
 |_=>none
def VB:FD
 |[.v (.int .u64 x),.v (.int .u64 y)]=>some (uR x&&uR y,[.agg [.v (u64 (x*y/18446744073709551616)),.v (u64 (x*y%18446744073709551616))]])
 |_=>none
def zK:Den Tryz.prog 162 Ag3:=Af JF fun ds rs h=>by
 unfold Ag3 at h;split at h
 ·rename_i x y;simp only[A5,A6,A2,uR_iff]at h;obtain⟨⟨⟨x0,x1⟩,y0,y1⟩,rfl⟩:=h;refine(Aqv x y).trans ?_;rw[V4 x x0 x1,V4 y y0 y1,Qe x x0,Qe y y0];obtain⟨p00,p01,p10,p11,h00,h01,h10,h11,b00,b01,b10,b11,hxy⟩:=Rn x y x0 x1 y0 y1;rw[<-h00,<-h01,<-h10,<-h11,hxy];clear h00 h01 h10 h11 hxy;rw[wrapU_id (n:=p00) o_ o_,wrapU_id (n:=p01) o_ o_,wrapU_id (n:=p10) o_ o_,wrapU_id (n:=p11) o_ o_,Qe p00 o_,
   wrapU_id (n:=p10+p00/4294967296) o_ o_,V4 (p10+p00/4294967296) o_ o_,Qe (p10+p00/4294967296) o_]
  rw[wrapU_id (n:=(p10+p00/4294967296)%4294967296+p01) o_ o_,Qe ((p10+p00/4294967296)%4294967296+p01) o_,wrapU,wrapU,wrapU];refine congrArg some ?_
  congr 1
  ·refine congrArg (fun n=>D.v (u64 n)) ?_;omega
 ·cases h
def ZR:Den Tryz.prog 170 VB:=Af JF fun ds rs h=>by
 unfold VB at h;split at h
 ·rename_i x y;simp only[A5,A6,A2,uR_iff]at h;obtain⟨⟨⟨x0,x1⟩,y0,y1⟩,rfl⟩:=h;refine(Alp x y).trans ?_;rw[V4 x x0 x1,V4 y y0 y1,Qe x x0,Qe y y0];obtain⟨p00,p01,p10,p11,h00,h01,h10,h11,b00,b01,b10,b11,hxy⟩:=Rn x y x0 x1 y0 y1;rw[<-h00,<-h01,<-h10,<-h11,hxy];clear h00 h01 h10 h11 hxy;rw[wrapU_id (n:=p00) o_ o_,wrapU_id (n:=p01) o_ o_,wrapU_id (n:=p10) o_ o_,wrapU_id (n:=p11) o_ o_,Qe p00 o_,Qe p10 o_,
   V4 p10 o_ o_,V4 p00 o_ o_,wrapU_id (n:=p10%4294967296+p01) o_ o_,wrapU_id (n:=p10%4294967296+p01+p00/4294967296) o_ o_,
   Qe (p10%4294967296+p01+p00/4294967296) o_]
  rw[wrapU ((p10%4294967296+p01+p00/4294967296)*2^32),show((2:Int)^32)=4294967296 from rfl,orM _ _ o_ o_ o_ o_ o_,wrapU,wrapU];refine congrArg some ?_;refine congrArg (fun x=>[x]) ?_;refine congrArg D.agg ?_
  congr 1
  ·refine congrArg (fun n=>D.v (u64 n)) ?_;omega
  ·refine congrArg (fun n=>[D.v (u64 n)]) ?_;omega
 ·cases h
def goodR(n d:Int):Prop:=(1<=d∧d<=1000000000000000000)∧(-1000000000000000000<=n∧n<=1000000000000000000)∧gcdI (absI n) d=1
instance{n d:Int}:Decidable (goodR n d):=by unfold goodR;infer_instance
def chkE(n d:Int):Int:=if goodR n d then 0 else 8
def iW(a b:Int)(ha:0<=a)(hb:0<b):0<gcdI a b:=by
 unfold gcdI;have:0<Nat.gcd a.toNat b.toNat:=Nat.gcd_pos_of_pos_right _ o_;omega
def Fchk:FD
 |[.agg [.v (.int .i64 n),.v (.int .i64 d)]]=>some (iR n&&iR d,[.v (i64 (chkE n d))])
 |_=>none
noncomputable def C1:Cx:=AP Tryz.prog fns [(124,RH),(136,RH),(123,JB),(137,JB)] []
def Yz:Be C1:=Aj enter mixed (Aw Tn<|Aw Uy<|Aw P6<|Aw SB AX) AX
def Aqs(n d:Int):BH C1 6 79 [.agg [.v (i64 n),.v (i64 d)]]=br (d<1) (some [.v (i64 8)]) (br (iR n) (br ((if IntKind.u64.wrap d>absI n then IntKind.u64.wrap d else absI n)>1000000000000000000) (some [.v (i64 8)]) (br (iR n) (br (uR (absI n)&&uR (IntKind.u64.wrap d)) (br (gcdI (absI n) (IntKind.u64.wrap d)>1) (some [.v (i64 8)]) (some [.v (i64 0)])) none) none)) none):=k_
def Apk(n d:Int):BH C1 6 96 [.agg [.v (i64 n),.v (i64 d)]]=br (d<1) (some [.v (i64 8)]) (br (d>1000000000000000000) (some [.v (i64 8)]) (br (n< -1000000000000000000) (some [.v (i64 8)]) (br (n>1000000000000000000) (some [.v (i64 8)]) (br (iR n) (br (uR (absI n)&&uR (IntKind.u64.wrap d)) (br (gcdI (absI n) (IntKind.u64.wrap d) !=1) (some [.v (i64 8)]) (some [.v (i64 0)])) none) none)))):=k_
def Dw{n:Int}(h0: -9223372036854775808<=n)(h1:n<9223372036854775808):IntKind.i64.wrap n=n:=by rw[Afc];omega
def absI_or(n:Int):0<=absI n∧(absI n=n∨absI n= -n):=by unfold absI;split<;>omega
def den_chk:Den Tryz.prog 79 Fchk:=Af Yz fun ds rs h=>by
 unfold Fchk at h;split at h
 ·rename_i n d;simp only[A5,A6,A2]at h;obtain⟨⟨h1,h2⟩,rfl⟩:=h;refine(Aqs n d).trans ?_;have⟨h3,h4⟩:=iR_iff.mp h1;have⟨h5,h6⟩:=iR_iff.mp h2;have⟨a1,a0⟩:=absI_or n;unfold chkE;by_cases hd:d<1
  ·rw[A4 hd,Aa,AL (fun hg=>by have:=hg.1.1;omega)]
  ·rw[AB hd,h1,wrapU_id (n:=d) o_ o_,Ac,Aa];by_cases hm:(if d>absI n then d else absI n)>1000000000000000000
   ·rw[A4 hm,Aa,AL (fun hg=>by have:=hg.1;have:=hg.2.1;split at hm<;>omega)]
   ·have hm':d<=1000000000000000000∧absI n<=1000000000000000000:=by split at hm<;>omega
    rw[AB hm,Ac,Aa,show(uR (absI n)&&uR d)=true by simp only[A2,uR_iff];omega,Aa];have hp:=iW (absI n) d a1 o_;by_cases hg:gcdI (absI n) d>1
    ·rw[A4 hg,Aa,AL (fun h=>by have:=h.2.2;omega)]
    ·rw[AB hg,Ac,AM ⟨o_,o_,o_⟩]
 ·cases h
def den_chkr:Den Tryz.prog 96 Fchk:=Af Yz fun ds rs h=>by
 unfold Fchk at h;split at h
 ·rename_i n d;simp only[A5,A6,A2]at h;obtain⟨⟨h1,h2⟩,rfl⟩:=h;refine(Apk n d).trans ?_;have⟨h3,h4⟩:=iR_iff.mp h1;have⟨h5,h6⟩:=iR_iff.mp h2;have⟨a1,a0⟩:=absI_or n;unfold chkE;by_cases hd:d<1
  ·rw[A4 hd,Aa,AL (fun hg=>by have:=hg.1.1;omega)]
  ·rw[AB hd,Ac];by_cases e1:d>1000000000000000000
   ·rw[A4 e1,Aa,AL (fun hg=>by have:=hg.1.2;omega)]
   ·rw[AB e1,Ac];by_cases e2:n< -1000000000000000000
    ·rw[A4 e2,Aa,AL (fun hg=>by have:=hg.2.1.1;omega)]
    ·rw[AB e2,Ac];by_cases e3:n>1000000000000000000
     ·rw[A4 e3,Aa,AL (fun hg=>by have:=hg.2.1.2;omega)]
     ·rw[AB e3,Ac,h1,wrapU_id (n:=d) o_ o_,Aa,show(uR (absI n)&&uR d)=true by simp only[A2,uR_iff];omega,Aa];by_cases hg:gcdI (absI n) d=1
      ·rw[show(gcdI (absI n) d !=1)=false by simpa using hg,Ac,AM ⟨o_,o_,hg⟩]
      ·rw[show(gcdI (absI n) d !=1)=true by simpa using hg,Aa,AL (fun h=>hg h.2.2)]
 ·cases h
noncomputable def C2:Cx:=AP Tryz.prog fns [(124,RH),(136,RH),(123,JB),(137,JB),(79,Fchk),(96,Fchk)] []
def U0:Be C2:=Aj enter mixed (Aw Tn<|Aw Uy<|Aw P6<|Aw SB<|Aw den_chk<|Aw den_chkr AX) AX
def Aoe(n d m e:Int):BH C2 6 169 [.agg [.v (i64 n),.v (i64 d)],.agg [.v (i64 m),.v (i64 e)]]=br (iR n&&iR d) (br (chkE n d !=0) (br (iR n&&iR d) (some [.v (i64 (chkE n d))]) none) (br (iR m&&iR e) (some [.v (i64 (chkE m e))]) none)) (none):=k_
def WO(n d m e:Int):BH C2 6 160 [.agg [.v (i64 n),.v (i64 d)],.agg [.v (i64 m),.v (i64 e)]]=br (iR n&&iR d) (br (iR m&&iR e) (br ((((Row.zeros 2).setI 0 0 (chkE n d)).setI 1 0 (chkE m e)).I 0 0 !=0) (some [.v (i64 ((((Row.zeros 2).setI 0 0 (chkE n d)).setI 1 0 (chkE m e)).I 0 0))]) (br ((((Row.zeros 2).setI 0 0 (chkE n d)).setI 1 0 (chkE m e)).I 1 0 !=0) (some [.v (i64 ((((Row.zeros 2).setI 0 0 (chkE n d)).setI 1 0 (chkE m e)).I 1 0))]) (some [.v (i64 0)]))) none) (none):=k_
def chk2(n d m e:Int):Int:=if chkE n d=0 then chkE m e else chkE n d
def Fboth:FD
 |[.agg [.v (.int .i64 n),.v (.int .i64 d)],.agg [.v (.int .i64 m),.v (.int .i64 e)]]=>some (iR n&&iR d&&iR m&&iR e,[.v (i64 (chk2 n d m e))])
 |_=>none
def den_both:Den Tryz.prog 169 Fboth:=Af U0 fun ds rs h=>by
 unfold Fboth at h;split at h
 ·rename_i n d m e;simp only[A5,A6,A2]at h;obtain⟨⟨⟨⟨h1,h2⟩,h3⟩,h4⟩,rfl⟩:=h;refine(Aoe n d m e).trans ?_;rw[h1,h2,h3,h4];unfold chk2;by_cases hc:chkE n d=0
  ·rw[show(chkE n d !=0)=false by simpa using hc,AM hc];rfl
  ·rw[show(chkE n d !=0)=true by simpa using hc,AL hc];rfl
 ·cases h
def aG:Den Tryz.prog 160 Fboth:=Af U0 fun ds rs h=>by
 unfold Fboth at h;split at h
 ·rename_i n d m e;simp only[A5,A6,A2]at h;obtain⟨⟨⟨⟨h1,h2⟩,h3⟩,h4⟩,rfl⟩:=h;refine(WO n d m e).trans ?_;rw[h1,h2,h3,h4,show(((Row.zeros 2).setI 0 0 (chkE n d)).setI 1 0 (chkE m e)).I 0 0=chkE n d from rfl,show(((Row.zeros 2).setI 0 0 (chkE n d)).setI 1 0 (chkE m e)).I 1 0=chkE m e from rfl];unfold chk2;by_cases hc:chkE n d=0
  ·rw[show(chkE n d !=0)=false by simpa using hc,AM hc];by_cases hk:chkE m e=0
   ·rw[hk];rfl
   ·rw[show(chkE m e !=0)=true by simpa using hk];rfl
  ·rw[show(chkE n d !=0)=true by simpa using hc,AL hc];rfl
 ·cases h
def chk_good{n d:Int}(h:chkE n d=0):goodR n d:=by
 unfold chkE at h;split at h
 ·assumption
 ·omega
def Rq{n d m e:Int}(h:chk2 n d m e=0):goodR n d∧goodR m e:=by
 unfold chk2 at h;split at h
 ·rename_i h1;exact⟨chk_good h1,chk_good h⟩
 ·contradiction
def wd(a b:Int):Int:=a*18446744073709551616+b
def qE:FD
 |[.agg [.v (.int .u64 a),.v (.int .u64 b)],.agg [.v (.int .u64 c),.v (.int .u64 d)]]=>some (uR a&&uR b&&uR c&&uR d,[.v (.bool (decide (wd a b<wd c d)))])
 |_=>none
def Ap6(a b c d:Int):BH C0 6 171 [.agg [.v (u64 a),.v (u64 b)],.agg [.v (u64 c),.v (u64 d)]]=br (a<c) (some [.v (.bool true)]) (br (a==c) (some [.v (.bool (b<d))]) (some [.v (.bool false)])):=k_
def dQ:Den Tryz.prog 171 qE:=Af JF fun ds rs h=>by
 unfold qE at h;split at h
 ·rename_i a b c d;simp only[A5,A6,A2,uR_iff,A3]at h;obtain⟨⟨⟨⟨h1,h2⟩,h3⟩,h4⟩,rfl⟩:=h;refine(Ap6 a b c d).trans ?_;unfold wd;refine Ha (fun h=>?_) (fun h=>Vf (fun h'=>?_) (fun h'=>?_))
  ·rw[A4 (show a*18446744073709551616+b<c*18446744073709551616+d by omega)]
  ·have:a=c:=by simpa using h'
   rw[show decide (a*18446744073709551616+b<c*18446744073709551616+d)=decide (b<d)from decide_eq_decide.mpr o_]
  ·have:a≠c:=by simpa using h'
   rw[AB (show¬a*18446744073709551616+b<c*18446744073709551616+d by omega)]
 ·cases h
def cmpI(a b:Int):Int:=if a<b then-1 else if b<a then 1 else 0
def oO:FD
 |[.v (.int .i64 a),.v (.int .i64 b)]=>some (true,[.v (i64 (cmpI a b))])
 |_=>none
def vF:FD
 |[.v (.int .u64 a),.v (.int .u64 b)]=>some (true,[.v (i64 (cmpI a b))])
 |_=>none
def Aq7(a b:Int):BH C0 6 161 [.v (i64 a),.v (i64 b)]=br (a !=a) (br (b !=b) (some [.v (i64 0)]) (some [.v (i64 (-1))])) (br (b !=b) (some [.v (i64 1)]) (br (a<b) (some [.v (i64 (-1))]) (br (a>b) (some [.v (i64 1)]) (some [.v (i64 0)])))):=k_
def An3(a b:Int):BH C0 6 164 [.v (u64 a),.v (u64 b)]=br (a !=a) (br (b !=b) (some [.v (i64 0)]) (some [.v (i64 (-1))])) (br (b !=b) (some [.v (i64 1)]) (br (a<b) (some [.v (i64 (-1))]) (br (a>b) (some [.v (i64 1)]) (some [.v (i64 0)])))):=k_
def jU:Den Tryz.prog 161 oO:=Af JF fun ds rs h=>by
 unfold oO at h;split at h
 ·rename_i a b;simp only[A5,A6]at h;obtain⟨_,rfl⟩:=h;refine(Aq7 a b).trans ?_;rw[show(a !=a)=false by simp,show(b !=b)=false by simp,Ac,Ac];unfold cmpI;refine Ha (fun h=>?_) (fun h=>Ha (fun h'=>?_) (fun h'=>?_))
  ·rw[AM h]
  ·rw[AL h,AM h']
  ·rw[AL h,AL h']
 ·cases h
def bM:Den Tryz.prog 164 vF:=Af JF fun ds rs h=>by
 unfold vF at h;split at h
 ·rename_i a b;simp only[A5,A6]at h;obtain⟨_,rfl⟩:=h;refine(An3 a b).trans ?_;rw[show(a !=a)=false by simp,show(b !=b)=false by simp,Ac,Ac];unfold cmpI;refine Ha (fun h=>?_) (fun h=>Ha (fun h'=>?_) (fun h'=>?_))
  ·rw[AM h]
  ·rw[AL h,AM h']
  ·rw[AL h,AL h']
 ·cases h
def abs_mul(n e:Int):absI n*e=if n<0 then-(n*e)else n*e:=by
 unfold absI;split
 ·rw[Int.neg_mul]
 ·rfl
def cpC(n d m e:Int):Int:=if chk2 n d m e=0 then cmpI (n*e) (m*d)else 0
def Fcmp:FD
 |[.agg [.v (.int .i64 n),.v (.int .i64 d)],.agg [.v (.int .i64 m),.v (.int .i64 e)]]=>some (iR n&&iR d&&iR m&&iR e,[.v (i64 (cpC n d m e)),.v (i64 (chk2 n d m e))])
 |_=>none
def cmpI_lt{a b:Int}(h:a<b):cmpI a b= -1:=AM h
def cmpI_gt{a b:Int}(h:b<a):cmpI a b=1:=by unfold cmpI;rw[AL o_,AM h]
def cmpI_eq{a b:Int}(h:a=b):cmpI a b=0:=by unfold cmpI;rw[AL o_,AL o_]
def Zy(x y:Int)(hx:0<=x)(hy:0<=y):cmpI x y=if cmpI (x/18446744073709551616) (y/18446744073709551616)≠0 then cmpI (x/18446744073709551616) (y/18446744073709551616)else cmpI (x%18446744073709551616) (y%18446744073709551616):=by
 rcases Int.lt_trichotomy (x/18446744073709551616) (y/18446744073709551616)with h|h|h
 ·rw[cmpI_lt h,AM d_,cmpI_lt o_]
 ·rw[cmpI_eq h,AL y_];unfold cmpI
  repeat' split
  all_goals omega
 ·rw[cmpI_gt h,AM d_,cmpI_gt o_]
def Pe(x y:Int):cmpI x y= -1∨cmpI x y=0∨cmpI x y=1:=by
 rcases Int.lt_trichotomy x y with h|h|h
 ·exact .inl (cmpI_lt h)
 ·exact .inr (.inl (cmpI_eq h))
 ·exact .inr (.inr (cmpI_gt h))
def sJ(x y:Int):cmpI (-x) (-y)= -cmpI x y:=by
 rcases Int.lt_trichotomy x y with h|h|h
 ·rw[cmpI_lt h,cmpI_gt o_];rfl
 ·rw[cmpI_eq h,cmpI_eq o_];rfl
 ·rw[cmpI_gt h,cmpI_lt o_]
noncomputable def C12:Cx:=AP Tryz.prog fns [(124,RH),(123,JB),(137,JB),(160,Fboth),(169,Fboth),(162,Ag3),(170,VB),(171,qE),(161,oO),(164,vF)] []
def C12_ok:Be C12:=Aj enter mixed (Aw Tn<|Aw P6<|Aw SB<|Aw aG<|Aw den_both<|Aw zK<|Aw ZR<|Aw dQ<|Aw jU<|Aw bM AX) AX
def ad_bounds{n d m e:Int}(hc:chk2 n d m e=0):(1<=d∧d<=1000000000000000000)∧(1<=e∧e<=1000000000000000000)∧(0<=absI n∧absI n<=1000000000000000000)∧(0<=absI m∧absI m<=1000000000000000000)∧iR n=true∧iR m=true:=by
 obtain⟨⟨⟨d1,d2⟩,⟨n1,n2⟩,_⟩,⟨e1,e2⟩,⟨m1,m2⟩,_⟩:=Rq hc;have⟨a1,a0⟩:=absI_or n;have⟨b1,b0⟩:=absI_or m;exact⟨⟨d1,d2⟩,⟨e1,e2⟩,⟨a1,o_⟩,⟨b1,o_⟩,iR_iff.mpr o_,iR_iff.mpr o_⟩
def UQ(A:Int):wd (A/18446744073709551616) (A%18446744073709551616)=A:=by unfold wd;omega
def Aqw(n d m e:Int):BH C12 6 122 [.agg [.v (i64 n),.v (i64 d)],.agg [.v (i64 m),.v (i64 e)]]=br (iR n&&iR d&&iR m&&iR e) (br (chk2 n d m e !=0) (some [.v (i64 0),.v (i64 (chk2 n d m e))]) (br (!decide (n<0)==decide (m<0)) (some [.v (i64 (cmpI n m)),.v (i64 0)]) (br (iR n) (br (uR (absI n)&&uR (IntKind.u64.wrap e)) (br (iR m) (br (uR (absI m)&&uR (IntKind.u64.wrap d)) (br ((((Row.zeros 2).setI 0 0 (cmpI (absI n*IntKind.u64.wrap e/18446744073709551616) (absI m*IntKind.u64.wrap d/18446744073709551616))).setI 1 0 (cmpI (absI n*IntKind.u64.wrap e%18446744073709551616) (absI m*IntKind.u64.wrap d%18446744073709551616))).I 0 0 !=0) (br (n<0) (some [.v (i64 (IntKind.i64.wrap (0-(((Row.zeros 2).setI 0 0 (cmpI (absI n*IntKind.u64.wrap e/18446744073709551616) (absI m*IntKind.u64.wrap d/18446744073709551616))).setI 1 0 (cmpI (absI n*IntKind.u64.wrap e%18446744073709551616) (absI m*IntKind.u64.wrap d%18446744073709551616))).I 0 0))),.v (i64 0)]) (some [.v (i64 ((((Row.zeros 2).setI 0 0 (cmpI (absI n*IntKind.u64.wrap e/18446744073709551616) (absI m*IntKind.u64.wrap d/18446744073709551616))).setI 1 0 (cmpI (absI n*IntKind.u64.wrap e%18446744073709551616) (absI m*IntKind.u64.wrap d%18446744073709551616))).I 0 0)),.v (i64 0)])) (br ((((Row.zeros 2).setI 0 0 (cmpI (absI n*IntKind.u64.wrap e/18446744073709551616) (absI m*IntKind.u64.wrap d/18446744073709551616))).setI 1 0 (cmpI (absI n*IntKind.u64.wrap e%18446744073709551616) (absI m*IntKind.u64.wrap d%18446744073709551616))).I 1 0 !=0) (br (n<0) (some [.v (i64 (IntKind.i64.wrap (0-(((Row.zeros 2).setI 0 0 (cmpI (absI n*IntKind.u64.wrap e/18446744073709551616) (absI m*IntKind.u64.wrap d/18446744073709551616))).setI 1 0 (cmpI (absI n*IntKind.u64.wrap e%18446744073709551616) (absI m*IntKind.u64.wrap d%18446744073709551616))).I 1 0))),.v (i64 0)]) (some [.v (i64 ((((Row.zeros 2).setI 0 0 (cmpI (absI n*IntKind.u64.wrap e/18446744073709551616) (absI m*IntKind.u64.wrap d/18446744073709551616))).setI 1 0 (cmpI (absI n*IntKind.u64.wrap e%18446744073709551616) (absI m*IntKind.u64.wrap d%18446744073709551616))).I 1 0)),.v (i64 0)])) (br (n<0) (some [.v (i64 0),.v (i64 0)]) (some [.v (i64 0),.v (i64 0)])))) none) none) none) none))) (none):=k_
def den_cmpp:Den Tryz.prog 122 Fcmp:=Af C12_ok fun ds rs h=>by
 unfold Fcmp at h;split at h
 ·rename_i n d m e;simp only[A5,A6]at h;obtain⟨h0,rfl⟩:=h;refine(Aqw n d m e).trans ?_;unfold cpC;rw[h0,Aa];simp only[A2]at h0;obtain⟨⟨⟨h1,h2⟩,h3⟩,h4⟩:=h0;by_cases hc:chk2 n d m e=0
  ·obtain⟨⟨⟨d1,d2⟩,_⟩,⟨e1,e2⟩,_⟩:=Rq hc;obtain⟨_,_,⟨a1,a2⟩,⟨b1,b2⟩,_⟩:=ad_bounds hc;rw[show(chk2 n d m e !=0)=false by simpa using hc,Ac,AM hc,h1,h3,wrapU_id (n:=d) o_ o_,wrapU_id (n:=e) o_ o_,
    show(uR (absI n)&&uR e)=true by simp only[A2,uR_iff];omega,show(uR (absI m)&&uR d)=true by simp only[A2,uR_iff];omega,Aa,Aa,Aa,Aa,hc]
   have hx:=abs_mul n e;have hy:=abs_mul m d;have x0:0<=absI n*e:=Int.mul_nonneg a1 o_;have y0:0<=absI m*d:=Int.mul_nonneg b1 o_;have sx:n<0->n*e<0:=fun h=>Int.mul_neg_of_neg_of_pos h o_;have sx':0<=n->0<=n*e:=fun h=>Int.mul_nonneg h o_;have sy:m<0->m*d<0:=fun h=>Int.mul_neg_of_neg_of_pos h o_;have sy':0<=m->0<=m*d:=fun h=>Int.mul_nonneg h o_;have hw:=Zy _ _ x0 y0;generalize absI n*e=x at*
   generalize absI m*d=y at*
   generalize n*e=u at*
   generalize m*d=v at*
   have r1:=Pe (x/18446744073709551616) (y/18446744073709551616);have r2:=Pe (x%18446744073709551616) (y%18446744073709551616);generalize hp:cmpI (x/18446744073709551616) (y/18446744073709551616)=p at*
   generalize hq:cmpI (x%18446744073709551616) (y%18446744073709551616)=q at*
   rw[show(((Row.zeros 2).setI 0 0 p).setI 1 0 q).I 0 0=p from rfl,show(((Row.zeros 2).setI 0 0 p).setI 1 0 q).I 1 0=q from rfl,Dw (n:=0-p) o_ o_,Dw (n:=0-q) o_ o_,Int.zero_sub,Int.zero_sub];by_cases hs:decide (n<0)=decide (m<0)
   ·rw[show(!decide (n<0)==decide (m<0))=false by rw[hs];cases decide (m<0)<;>rfl,Ac];have hcmp:cmpI u v=if n<0 then-cmpI x y else cmpI x y:=by
     by_cases hn:n<0
     ·have hm:m<0:=by rw[A4 hn]at hs;exact AD hs.symm
      rw[AM hn]at hx⊢;rw[AM hm]at hy;rw[hx,hy,sJ,Int.neg_neg]
     ·have hm:¬m<0:=by rw[AB hn]at hs;exact AO hs.symm
      rw[AL hn]at hx⊢;rw[AL hm]at hy;rw[hx,hy]
    rw[hcmp];by_cases hp0:p=0
    ·rw[show(p !=0)=false by simpa using hp0,Ac];rw[AL (fun h=>h hp0)]at hw;rw[hw];by_cases hq0:q=0
     ·rw[show(q !=0)=false by simpa using hq0,Ac,hq0];by_cases hn:n<0
      ·rw[A4 hn,AM hn];rfl
      ·rw[AB hn,AL hn];rfl
     ·rw[show(q !=0)=true by simpa using hq0,Aa];by_cases hn:n<0
      ·rw[A4 hn,AM hn];rfl
      ·rw[AB hn,AL hn];rfl
    ·rw[show(p !=0)=true by simpa using hp0,Aa];rw[AM hp0]at hw;rw[hw];by_cases hn:n<0
     ·rw[A4 hn,AM hn];rfl
     ·rw[AB hn,AL hn];rfl
   ·rw[show(!decide (n<0)==decide (m<0))=true by revert hs;cases decide (n<0)<;>cases decide (m<0)<;>simp,Aa];have hnm:(n<0∧0<=m)∨(0<=n∧m<0):=by
     by_cases hn:n<0
     ·refine .inl ⟨hn,?_⟩;rcases Int.lt_or_le m 0 with h|h
      ·exact absurd ((A4 hn).trans (A4 h).symm) hs
      ·exact h
     ·refine .inr ⟨o_,?_⟩;rcases Int.lt_or_le m 0 with h|h
      ·exact h
      ·exact absurd ((AB hn).trans (AB (show¬m<0 by omega)).symm) hs
    rcases hnm with⟨g1,g2⟩|⟨g1,g2⟩
    ·have:=sx g1;have:=sy' g2;rw[cmpI_lt (show n<m by omega),cmpI_lt (show u<v by omega)]
    ·have:=sx' g1;have:=sy g2;rw[cmpI_gt (show m<n by omega),cmpI_gt (show v<u by omega)]
  ·rw[show(chk2 n d m e !=0)=true by simpa using hc,Aa,AL hc]
 ·cases h
def Flessr:FD
 |[.agg [.v (.int .i64 n),.v (.int .i64 d)],.agg [.v (.int .i64 m),.v (.int .i64 e)]]=>some (iR n&&iR m&&(inB d 1 1000000000000000000&&inB e 1 1000000000000000000),[.v (.bool (decide (n*e<m*d)))])
 |_=>none
def tlessr(n d m e:Int):BH C12 6 134 [.agg [.v (i64 n),.v (i64 d)],.agg [.v (i64 m),.v (i64 e)]]=br (!decide (n<0)==decide (m<0)) (some [.v (.bool (n<0))]) (br (iR n) (br (uR (absI n)&&uR (IntKind.u64.wrap e)) (br (iR m) (br (uR (absI m)&&uR (IntKind.u64.wrap d)) (br (n<0) (br (uR (absI m*IntKind.u64.wrap d/18446744073709551616)&&uR (absI m*IntKind.u64.wrap d%18446744073709551616)&&uR (absI n*IntKind.u64.wrap e/18446744073709551616)&&uR (absI n*IntKind.u64.wrap e%18446744073709551616)) (some [.v (.bool (wd (absI m*IntKind.u64.wrap d/18446744073709551616) (absI m*IntKind.u64.wrap d%18446744073709551616)<wd (absI n*IntKind.u64.wrap e/18446744073709551616) (absI n*IntKind.u64.wrap e%18446744073709551616)))]) none) (br (uR (absI n*IntKind.u64.wrap e/18446744073709551616)&&uR (absI n*IntKind.u64.wrap e%18446744073709551616)&&uR (absI m*IntKind.u64.wrap d/18446744073709551616)&&uR (absI m*IntKind.u64.wrap d%18446744073709551616)) (some [.v (.bool (wd (absI n*IntKind.u64.wrap e/18446744073709551616) (absI n*IntKind.u64.wrap e%18446744073709551616)<wd (absI m*IntKind.u64.wrap d/18446744073709551616) (absI m*IntKind.u64.wrap d%18446744073709551616)))]) none)) none) none) none) none):=k_
def den_lessr:Den Tryz.prog 134 Flessr:=Af C12_ok fun ds rs h=>by
 unfold Flessr at h;split at h
 ·rename_i n d m e;simp only[A5,A6,A2,inB_iff]at h;obtain⟨⟨⟨h1,h2⟩,⟨d1,d2⟩,e1,e2⟩,rfl⟩:=h;refine(tlessr n d m e).trans ?_;obtain⟨n1,n2⟩:=iR_iff.mp h1;obtain⟨m1,m2⟩:=iR_iff.mp h2;have⟨a1,a0⟩:=absI_or n;have⟨b1,b0⟩:=absI_or m;have x0:0<=absI n*e:=Int.mul_nonneg a1 o_;have x1:absI n*e<=9223372036854775808*1000000000000000000:=Int.mul_le_mul o_ e2 o_ d_;have y0:0<=absI m*d:=Int.mul_nonneg b1 o_;have y1:absI m*d<=9223372036854775808*1000000000000000000:=Int.mul_le_mul o_ d2 o_ d_;rw[wrapU_id (n:=d) o_ o_,wrapU_id (n:=e) o_ o_,h1,h2,show(uR (absI n)&&uR e)=true by simp only[A2,uR_iff];omega,show(uR (absI m)&&uR d)=true by simp only[A2,uR_iff];omega,UQ,UQ,Aa,Aa,Aa,Aa];have hx:=abs_mul n e;have hy:=abs_mul m d;have sx:n<0->n*e<0:=fun h=>Int.mul_neg_of_neg_of_pos h o_;have sx':0<=n->0<=n*e:=fun h=>Int.mul_nonneg h o_;have sy:m<0->m*d<0:=fun h=>Int.mul_neg_of_neg_of_pos h o_;have sy':0<=m->0<=m*d:=fun h=>Int.mul_nonneg h o_;generalize absI n*e=x at*
  generalize absI m*d=y at*
  generalize n*e=u at*
  generalize m*d=v at*
  rw[show(uR (y/18446744073709551616)&&uR (y%18446744073709551616)&&uR (x/18446744073709551616)&&uR (x%18446744073709551616))=true by simp only[A2,uR_iff];omega,
   show(uR (x/18446744073709551616)&&uR (x%18446744073709551616)&&uR (y/18446744073709551616)&&uR (y%18446744073709551616))=true by simp only[A2,uR_iff];omega,Aa,Aa]
  by_cases hn:n<0
  ·rw[AM hn]at hx;have:=sx hn;by_cases hm:m<0
   ·rw[AM hm]at hy;rw[A4 hn,A4 hm,show(!true==true)=false from rfl,Ac,Aa,show decide (y<x)=decide (u<v)from decide_eq_decide.mpr o_]
   ·have:=sy' o_;rw[A4 hn,AB hm,show(!true==false)=true from rfl,Aa,A4 (show u<v by omega)]
  ·rw[AL hn]at hx;have:=sx' o_;by_cases hm:m<0
   ·have:=sy hm;rw[AB hn,A4 hm,show(!false==true)=true from rfl,Aa,AB (show¬u<v by omega)]
   ·rw[AL hm]at hy;rw[AB hn,AB hm,show(!false==false)=false from rfl,Ac,Ac,show decide (x<y)=decide (u<v)from decide_eq_decide.mpr o_]
 ·cases h
end Go.Proofs.YtnljjjghpgdmoaaGreatDoor.Rt
namespace Go.Proofs.YtnljjjghpgdmoaaGreatDoor
open Go.RowKit Go.Shelf
set_option maxRecDepth 100000
attribute [local go_sem] Oper.semAt_some
def upto(f:Nat->Int)(k:Nat):List Int:=(List.range k).map f
def upto_succ(f:Nat->Int)(k:Nat):upto f (k+1)=upto f k++[f k]:=by simp[upto,List.range_succ]
def upto_length(f:Nat->Int)(k:Nat):(upto f k).length=k:=by simp[upto]
def Nl(f:Nat->Int):∀{k n:Nat},k<=n->upto f k<+:upto f n
 |k,0,h=>by
  have:k=0:=o_;subst this;exact List.prefix_refl _
 |k,n+1,h=>by
  by_cases hk:k=n+1
  ·subst hk;exact List.prefix_refl _
  ·exact(Nl f (show k<=n by omega)).trans (by rw[upto_succ];exact List.prefix_append _ _)
set_option maxHeartbeats 2000000 in
def values1_in(F:Fence)(n:Nat)(h7:F.fn 193)(hro:F.round=none)(hn:1<=n)(l Bs n₀ b off len cap:Nat)(z:Nat->Int)(hreach:len*8<=140737488351232)(hb:b<n₀)(J Jx:List Int->World->Prop)
  (hY:∀pre x W,J pre W->pre.length<len->YieldAt F (n-1) Tryz.prog l #[.int .i64 x] W fun e W'=>
   (e=.returned (.bool true)∧J (pre++[x]) W'∧Below n₀ W W')∨(e=.returned (.bool false)∧Jx (pre++[x]) W'))
  (W:World) (hBs:W.cell? ⟨Bs,0,none⟩=some (.slice (some ⟨b,off,none⟩) len cap)) (hc:∀j,j<len->W.cell? ⟨b,off+j,none⟩=some (.int .i64 (z j))) (h0:J [] W):
  CallsIn F n Tryz.prog 193 #[.func (.yield l) #[] #[],.pointer (some ⟨Bs,0,none⟩)] W fun e W'=>(∃v,e=.returned v)∧
   ((∃ys,ys=upto z len∧J ys W')∨(∃pre,(∃k,k<=len∧pre=upto z k)∧Jx pre W')):=by
 refine callsIn_of_wp Tryz.func193 rfl h7 ?_ hro;simp only[Tryz.ntmps193,List.size_toArray,List.length_cons,List.length_nil,Nat.reduceAdd,Nat.reduceSub,Array.replicate_succ,Array.replicate_zero,List.push_toArray,List.append_toArray,List.nil_append,List.cons_append]
 gi_wp2
 gi_loopw [7] (fun i wr=>∃k:Nat,k<=len∧i=.int .i64 k∧J (upto z k) wr∧Below n₀ W wr)
  (fun i _=>len-(intOf i).toNat)
 case atStart=>exact⟨0,Nat.zero_le _,rfl,h0,Below.refl _ _⟩
 case round=>
  obtain⟨k,hk,rfl,hJs,hnx⟩:=hrel;have hcx:k<len->wr.cell? ⟨b,off+k,none⟩=some (.int .i64 (z k)):=fun h=>(hnx.cell (p:=⟨b,off+k,none⟩) hb).trans (hc k h);by_cases hlt:k<len
  ·obtain⟨fn,tmps,assign,body,hy,hR⟩:=hY _ (z k) wr hJs (by rw[upto_length];exact hlt);have hcx':=hcx hlt
   gi_wp2
   refine hR.mono ?_;rintro e W3 (⟨rfl,hJ3,hk3⟩|⟨rfl,hJx3⟩)
   ·gi_wp2
    go_roundw
    case rel=>exact⟨k+1,o_,y_,by rw[upto_succ];exact hJ3,hnx.trans hk3⟩
    case measure=>simp[intOf];omega
   ·gi_wp2
    refine bodyPost_ret (results_none rfl _ _ _) rfl ?_;exact⟨⟨_,rfl⟩,.inr ⟨_,⟨k+1,o_,(upto_succ _ _).symm⟩,hJx3⟩⟩
  ·obtain rfl:k=len:=o_
   gi_wp2
   go_end0
   exact⟨⟨_,rfl⟩,.inl ⟨_,rfl,hJs⟩⟩
set_option maxHeartbeats 1000000 in
def values1_nil_in(F:Fence)(n:Nat)(h7:F.fn 193)(hro:F.round=none)(l Bs:Nat)(a:Option Addr)(cap:Nat)(J:List Int->World->Prop)(W:World)(hBs:W.cell? ⟨Bs,0,none⟩=some (.slice a 0 cap))(h0:J [] W):
  CallsIn F n Tryz.prog 193 #[.func (.yield l) #[] #[],.pointer (some ⟨Bs,0,none⟩)] W fun e W'=>(∃v,e=.returned v)∧J [] W':=by
 refine callsIn_of_wp Tryz.func193 rfl h7 ?_ hro;simp only[Tryz.ntmps193,List.size_toArray,List.length_cons,List.length_nil,Nat.reduceAdd,Nat.reduceSub,Array.replicate_succ,Array.replicate_zero,List.push_toArray,List.append_toArray,List.nil_append,List.cons_append]
 gi_wp2
 gi_loopw [7] (fun i wr=>i=.int .i64 0∧J [] wr) (fun _ _=>0)
 case atStart=>exact⟨rfl,h0⟩
 case round=>
  obtain⟨rfl,hJs⟩:=hrel
  gi_wp2
  go_end0
  exact⟨⟨_,rfl⟩,hJs⟩
def Nums(n₀:Nat)(W:World)(sv:Value)(len:Nat)(z:Nat->Int):Prop:=∃a cap b off,sv=.slice a len cap∧(0<len->a=some ⟨b,off,none⟩∧b<n₀)∧∀j,j<len->W.cell? ⟨b,off+j,none⟩=some (.int .i64 (z j))
def Nums.below{n₀:Nat}{A B:World}(h:Below n₀ A B){sv:Value}{len:Nat}{z:Nat->Int}:Nums n₀ A sv len z->Nums n₀ B sv len z
 |⟨a,cap,b,off,e,hb,hc⟩=>⟨a,cap,b,off,e,hb,fun j hj=>(h.cell (p:=⟨b,off+j,none⟩) (hb o_).2).trans (hc j hj)⟩
def values_stops(F:Fence)(n:Nat)(h7:F.fn 193)(hro:F.round=none)(hn:1<=n)(Bs n₀:Nat)(sv:Value)(len:Nat)(z:Nat->Int)(hreach:len*8<=140737488351232)(w:World)(hBs:Bs<w.heap.size)(hn₀:n₀<=w.heap.size)
  (hc:w.cell? ⟨Bs,0,none⟩=some sv) (hI:Nums n₀ w sv len z):
  SeqStopsK F n Tryz.prog 193 #[.pointer (some ⟨Bs,0,none⟩)] (fun x:Int=> #[Value.int .i64 x]) (Below n₀) (fun ys=>ys=upto z len) (fun pre=>pre<+:upto z len) len w:=fun l J Jx W hW _ _ hY h0=>by
 have hc':=(hW.cell (p:=⟨Bs,0,none⟩) hBs).trans hc;obtain⟨a,cap,b,off,rfl,hb,hcs⟩:=hI.below (hW.mono hn₀);by_cases hl:len=0
 ·subst hl;exact(values1_nil_in F n h7 hro l Bs a cap J W hc' h0).mono fun e W' ⟨he,hj⟩=>⟨he,.inl ⟨_,rfl,hj⟩⟩
 ·obtain⟨rfl,hb2⟩:=hb o_;refine(values1_in F n h7 hro hn l Bs n₀ b off len cap z hreach hb2 J Jx hY W hc' hcs h0).mono ?_;rintro e W' ⟨he,⟨ys,rfl,hj⟩|⟨pre,⟨k,hk,rfl⟩,hj⟩⟩
  ·exact⟨he,.inl ⟨_,rfl,hj⟩⟩
  ·exact⟨he,.inr ⟨_,Nl z hk,hj⟩⟩
def lW:(Tryz.prog.info? 3).map (fun i=>(i.zero,i.size,i.bytes))=some (some (.int .i64 0),1,8):=k_
set_option maxHeartbeats 2000000 in
def ZX(F:Fence)(n:Nat)(h3:F.fn 202)(h5:F.fn 193)(hro:F.round=none)(hn:3<=n)(Bs:Nat)(sv:Value)(len:Nat)(z:Nat->Int)(hlen:len<=1000000)(w:World)(hBs:Bs<w.heap.size)(hcs:w.cell? ⟨Bs,0,none⟩=some sv)(hI:Nums w.heap.size w sv len z):
  CallsIn F n Tryz.prog 202 #[.slice none 0 0,.func (.func 193) #[] #[.pointer (some ⟨Bs,0,none⟩)]] w fun e W'=>∃v,e=.returned v∧W'.ownsRow w.heap.size 3 1 v len ((upto z len).map (Value.int .i64))∧(v=.slice none 0 0↔len=0)∧Below w.heap.size w W':=by
 have h1:1<=n:=o_;obtain⟨i0,hi,hz0,hz1,hz2⟩:=info_parts lW;refine callsIn_of_wp_marks Tryz.func202 rfl h3 ?_ hro;simp only[Tryz.ntmps202,List.size_toArray,List.length_cons,List.length_nil,Nat.reduceAdd,Nat.reduceSub,Array.replicate_succ,Array.replicate_zero,List.push_toArray,List.append_toArray,List.nil_append,List.cons_append]
 gi_wp2
 have bO:=Boxed.new w 32 (.slice none 0 0);have hB0:Below w.heap.size w (w.alloc (.cells #[.slice none 0 0] 32)):=(Below.refl _ w).alloc (Nat.le_refl _) _;refine wpIn_rangeFunc_ownG hro h1 (gf:=193) (lb:= #[.pointer (some ⟨Bs,0,none⟩)]) rfl h5 (enters_of Tryz.func193 k_ rfl)
  (values_stops F (n-1) h5 hro o_ Bs w.heap.size sv len z o_ _ z_ y_ ((hB0.cell (p:=⟨Bs,0,none⟩) hBs).trans hcs) (hI.below hB0)) belowK_t (belowK_b y_) (Below.refl _ _) (fun _=>rfl)
  (fun pre W=>(∃v,Boxed W w.heap.size 32 v∧W.ownsRow w.heap.size 3 1 v pre.length (pre.map (Value.int .i64))∧(v=.slice none 0 0↔pre=[]))∧Below w.heap.size w W)
  (fun _ _ _=>False)
  (OwnFrom.and (Own.from (holdsRow_own w.heap.size w.heap.size 32 3 1 (fun pre=>pre.length) (fun pre=>pre.map (Value.int .i64)) (fun pre v=>v=.slice none 0 0↔pre=[])) _) (ownFrom_below (Nat.le_refl _) y_))
  (fun _ _ _ _ _ hs _ _=>hs)
  ⟨⟨_,bO,World.ownsRow_nil _ _ _ _,y_⟩,hB0⟩
  (fun x=>{tmps:= #[.slice none 0 0,.func (.func 193) #[] #[.pointer (some ⟨Bs,0,none⟩)],.pointer (some ⟨w.heap.size,0,none⟩),undef,.slice none 0 0,.int .i64 x,.func (.func 193) #[] #[.pointer (some ⟨Bs,0,none⟩)],.int .i64 x,undef,undef,undef,undef,undef],defers:=[]}) ?assign ?body ?done ?stop
 case assign=>
  intro l x W K hK
  gi_wp2
  exact hK
 case body=>
  rintro l pre x W ⟨⟨v,hv,hrow,hnil⟩,hB⟩ hlt;have hc:=hv.cell;have hpl:pre.length<len:=hlt
  gi_wp2_with (gi_at_builtin;refine wpListIn_append_own _ rfl _ _ 32 rfl w.heap.size 3 i0 (.int .i64 0) 1 8 Tryz.underlying32 hi hz0 hz1 hz2 rfl d_ _ _ _ rfl (hrow.alloc _) ⟨W.heap.size,0,none⟩ 1 1 [.int .i64 x] rfl rfl (cell_one_new _ _ _) (by simp[Value.oneCell']) (by unfold maxLen;omega) o_ (by have:=hB.size;simp;omega) ?_;intro v' w1 hown' hgrow _;obtain⟨g',cap',rfl⟩:=ownsRow_succ hown';obtain⟨hv1,hv2,hr2,hk2,hb2⟩:=hv.appended d_ hrow hB.size (Nat.le_refl _) hown' hgrow;have hc1:=hv1.cell;have hf1:=hv1.frozen)
  exact⟨hk2.from _,hb2,⟨_,hv2,by simpa using hr2,y_⟩,hB.trans hb2⟩
 case done=>
  rintro D ys W hD rfl ⟨⟨v,hv,hrow,hnil⟩,hB⟩ hK;have hc:=hv.cell
  gi_wp2
  refine⟨y_,.inl ⟨_,_,rfl,run_takeDeferred hK,?_⟩⟩;refine⟨_,results_tmp rfl _ _ _,v,rfl,?_,?_,hB.trans (belowK_b (w:=w) (Nat.le_refl _) W D _ _ (by simp at hD;omega) hK rfl rfl)⟩
  ·have:=ownsRow_putObj hrow (.deferred none) hK rfl;rw[upto_length]at this;exact this
  ·rw[hnil,<-List.length_eq_zero_iff,upto_length]
 case stop=>
  rintro D c pre W _ _ h _;exact h.elim
end Go.Proofs.YtnljjjghpgdmoaaGreatDoor
namespace Go.Dec
open Go.Lib
def Yf(c:UInt8)(n:Int):Option Int:=if c.toNat<48∨57<c.toNat∨100000000000000000<n then none else some (10*n+((c.toNat:Int)-48))
def Ih:List UInt8->Int->Option Int
 |[],n=>some n
 |c::r,n=>match Yf c n with
  |some m=>Ih r m
  |none=>none
def IV:∀(l m:List UInt8)(n:Int),Ih (l++m) n=(Ih l n).bind (Ih m)
 |[],m,n=>rfl
 |c::r,m,n=>by
  simp only[List.cons_append,Ih];cases Yf c n with
  |none=>rfl
  |some x=>exact IV r m x
def KT(c:UInt8)(n:Int):Ih [c] n=Yf c n:=by
 unfold Ih;cases Yf c n<;>rfl
def lK{c:UInt8}{n m:Int}(h:Yf c n=some m):48<=c.toNat∧c.toNat<=57∧n<=100000000000000000∧m=10*n+((c.toNat:Int)-48):=by
 unfold Yf at h;split at h
 ·cases h
 ·rename_i hc;simp only[Option.some.injEq]at h;omega
def CJ(k:Nat)(h:k<256):(UInt8.ofNat k).toNat=k:=by
 simp[UInt8.toNat_ofNat',Nat.mod_eq_of_lt h]
def toNat_ofNat(c:UInt8):UInt8.ofNat c.toNat=c:=y_
def BV{u:Nat}(h:¬u<10):decDigits u=decDigits (u/10)++[UInt8.ofNat (48+u%10)]:=by rw[decDigits,dif_neg h]
def lL:∀(N u:Nat),u<=N->u<=1000000000000000009->Ih (decDigits u) 0=some (u:Int):=by
 intro N
 induction N with
 |zero=>
  intro u h _;obtain rfl:u=0:=o_;rw[decDigits_one o_,KT];rfl
 |succ N ih=>
  intro u h hu;by_cases hs:u<10
  ·rw[decDigits_one hs,KT];unfold Yf;rw[CJ _ o_,if_neg o_]
   congr 1
   omega
  ·rw[BV hs,IV,ih (u/10) o_ o_];show Ih [UInt8.ofNat (48+u%10)] ((u/10:Nat):Int)=_;rw[KT];unfold Yf;rw[CJ _ o_,if_neg o_]
   congr 1
   omega
def HY(u:Nat):decDigits u≠[]:=by
 have:=decDigits_length u;have h2:=nDigits_pos u;intro h;rw[h]at this;simp at this;omega
def Dz:∀(N u:Nat),u<=N->∀c∈decDigits u,48<=c.toNat∧c.toNat<=57:=by
 intro N
 induction N with
 |zero=>
  intro u h c hc;obtain rfl:u=0:=o_;rw[decDigits_one o_]at hc;simp only[List.mem_singleton]at hc;subst hc
  decide
 |succ N ih=>
  intro u h c hc;by_cases hs:u<10
  ·rw[decDigits_one hs]at hc;simp only[List.mem_singleton]at hc;subst hc;rw[CJ _ o_];omega
  ·rw[BV hs,List.mem_append]at hc;rcases hc with hc|hc
   ·exact ih (u/10) o_ c hc
   ·simp only[List.mem_singleton]at hc;subst hc;rw[CJ _ o_];omega
def KO:∀(N u:Nat),u<=N->1<=u->∃c r,decDigits u=c::r∧c.toNat≠48:=by
 intro N
 induction N with
 |zero=>intro u h h1;omega
 |succ N ih=>
  intro u h h1;by_cases hs:u<10
  ·exact⟨_,[],decDigits_one hs,by rw[CJ _ o_];omega⟩
  ·obtain⟨c,r,h2,h3⟩:=ih (u/10) o_ o_;exact⟨c,r++[UInt8.ofNat (48+u%10)],by rw[BV hs,h2];rfl,h3⟩
def VN:∀(N:Nat)(l:List UInt8)(n:Int),l.length<=N->l≠[]->(l.length=1∨∃c r,l=c::r∧c.toNat≠48)->Ih l 0=some n->0<=n∧decDigits n.toNat=l:=by
 intro N
 induction N with
 |zero=>intro l n hN h0;exact absurd (List.length_eq_zero_iff.1 o_) h0
 |succ N ih=>
  intro l n hN h0 hz hv;rcases List.eq_nil_or_concat l with h|⟨l',c,h⟩
  ·exact absurd h h0
  ·rw[List.concat_eq_append]at h;subst h;rw[IV]at hv;cases hl:Ih l' 0 with
   |none=>rw[hl]at hv;cases hv
   |some m=>
    rw[hl]at hv;have hv:Ih [c] m=some n:=hv;rw[KT]at hv;obtain⟨c1,c2,c3,rfl⟩:=lK hv;by_cases hl0:l'=[]
    ·subst hl0;cases hl;refine⟨o_,?_⟩;rw[show(10*(0:Int)+((c.toNat:Int)-48)).toNat=c.toNat-48 by omega,decDigits_one o_,show 48+(c.toNat-48)=c.toNat by omega,toNat_ofNat];rfl
    ·have hlen:2<=(l'++[c]).length:=by
      have:l'.length≠0:=fun h=>hl0 (List.length_eq_zero_iff.1 h);simp;omega
     obtain⟨d,r,hd,hd0⟩:∃d r,l'=d::r∧d.toNat≠48:=by
      rcases hz with hz|⟨d,r,hz,hd⟩
      ·omega
      ·cases l' with
       |nil=>exact absurd rfl hl0
       |cons e r'=>
        simp only[List.cons_append,List.cons.injEq]at hz;exact⟨e,r',rfl,by rw[hz.1];exact hd⟩
     obtain⟨i1,i2⟩:=ih l' m (by simp at hN;omega) hl0 (.inr ⟨d,r,hd,hd0⟩) hl;have hm:1<=m.toNat:=by
      by_cases h:m.toNat=0
      ·rw[h,decDigits_one o_,hd]at i2;simp only[List.cons.injEq]at i2;exact absurd (by rw[<-i2.1];rfl) hd0
      ·omega
     refine⟨o_,?_⟩;rw[show(10*m+((c.toNat:Int)-48)).toNat=10*m.toNat+(c.toNat-48) by omega,BV o_,show(10*m.toNat+(c.toNat-48))/10=m.toNat by omega,i2,
      show 48+(10*m.toNat+(c.toNat-48))%10=c.toNat by omega,toNat_ofNat]
def nDigits_lt:∀(k u:Nat),u<10^(k+1)->nDigits u<=k+1
 |0,u,h=>by rw[nDigits_small (by simpa using h)];exact Nat.le_refl _
 |k+1,u,h=>by
  by_cases hs:u<10
  ·rw[nDigits_small hs];omega
  ·rw[nDigits_big hs];have:=nDigits_lt k (u/10) (by rw[Nat.pow_succ]at h;omega);omega
def dgF(l:List UInt8):Bool:=decide (l.length=0)||decide (19<l.length)||(decide (1<l.length)&&decide ((l.headD 0).toNat=48))
def JA(l:List UInt8):Int:=if dgF l=true then 0 else match Ih l 0 with
 |some n=>n
 |none=>0
def P9(l:List UInt8):Bool:=if dgF l=true then false else match Ih l 0 with
 |some n=>decide (n<=1000000000000000000)
 |none=>false
def NV{l:List UInt8}(h:P9 l=true):0<=JA l∧JA l<=1000000000000000000∧decDigits (JA l).toNat=l:=by
 unfold P9 at h;unfold JA;split at h
 ·cases h
 ·rename_i hf;rw[if_neg hf];cases hv:Ih l 0 with
  |none=>rw[hv]at h;cases h
  |some n=>
   rw[hv]at h;have h:n<=1000000000000000000:=by simpa using h
   unfold dgF at hf;simp only[Bool.or_eq_true,Bool.and_eq_true,decide_eq_true_eq,not_or,not_and]at hf;obtain⟨⟨f1,f2⟩,f3⟩:=hf;have hne:l≠[]:=fun he=>f1 (by rw[he];rfl);obtain⟨g1,g2⟩:=VN _ l n (Nat.le_refl _) hne (by
    by_cases hl:1<l.length
    ·right
     have:=f3 hl;cases l with
     |nil=>exact absurd rfl hne
     |cons c r=>exact⟨c,r,rfl,this⟩
    ·left;omega) hv
   exact⟨g1,h,g2⟩
def vO(u:Nat)(hu:u<=1000000000000000000):P9 (decDigits u)=true∧JA (decDigits u)=(u:Int):=by
 have hv:=lL u u (Nat.le_refl _) o_;have hl:(decDigits u).length<=19:=by
  rw[decDigits_length];exact nDigits_lt 18 u o_
 have hf:dgF (decDigits u)=false:=by
  unfold dgF;simp only[Bool.or_eq_false_iff,Bool.and_eq_false_iff,decide_eq_false_iff_not];refine⟨⟨fun h=>HY u (List.length_eq_zero_iff.1 h),o_⟩,?_⟩;by_cases h0:u=0
  ·left
   rw[h0,decDigits_one o_]
   decide
  ·right
   obtain⟨c,r,h1,h2⟩:=KO u u (Nat.le_refl _) o_;rw[h1];exact h2
 unfold P9 JA;rw[if_neg (by rw[hf];decide),if_neg (by rw[hf];decide),hv];exact⟨decide_eq_true o_,rfl⟩
def Gj(M:Nat):∀(l m:List UInt8)(a:Nat),parseUintM M a (l++m)=match parseUintM M a l with
  |.ok b=>parseUintM M b m
  |Go.Lib.NumEnd.syntax=>Go.Lib.NumEnd.syntax
  |.range=>.range
 |[],m,a=>rfl
 |c::r,m,a=>by
  simp only[List.cons_append,parseUintM];split
  ·split
   ·rfl
   ·split
    ·rfl
    ·exact Gj M r m _
  ·rfl
def IR(M:Nat)(hM:M<=18446744073709551615):∀(N u:Nat),u<=N->u<=M->parseUintM M 0 (decDigits u)=.ok u:=by
 intro N
 induction N with
 |zero=>
  intro u h _;obtain rfl:u=0:=o_;rw[decDigits_one o_];simp[parseUintM]
 |succ N ih=>
  intro u h hu;by_cases hs:u<10
  ·rw[decDigits_one hs];simp only[parseUintM];rw[CJ _ o_,if_pos o_,if_neg o_,if_neg o_]
   congr 1
   omega
  ·rw[BV hs,Gj,ih (u/10) o_ o_];simp only[parseUintM];rw[CJ _ o_,if_pos o_,if_neg o_,if_neg o_]
   congr 1
   omega
def Qo(n:Int)(h0: -9223372036854775808<=n)(h1:n<=9223372036854775807):parseIntB 64 (itoa n)=.ok n:=by
 have e1:(2:Nat)^64-1=18446744073709551615:=d_;have e2:(2:Nat)^(64-1)=9223372036854775808:=d_;by_cases hn:n<0
 ·obtain⟨u,rfl⟩:∃u:Nat,n= -(u:Int):=⟨n.natAbs,o_⟩;rw[itoa_neg u o_];have hU:parseUintB 64 (decDigits u)=.ok u:=by
   unfold parseUintB;rw[if_neg (HY u),e1];exact IR _ (Nat.le_refl _) u u (Nat.le_refl _) o_
  unfold parseIntB;have h45:(45:UInt8).toNat=45:=rfl;simp only[h45];rw[if_pos y_,hU];simp only[e2];rw[if_neg y_,if_neg o_,if_pos trivial]
 ·obtain⟨u,rfl⟩:∃u:Nat,n=(u:Int):=⟨n.toNat,o_⟩;rw[itoa_nonneg u];have hU:parseUintB 64 (decDigits u)=.ok u:=by
   unfold parseUintB;rw[if_neg (HY u),e1];exact IR _ (Nat.le_refl _) u u (Nat.le_refl _) o_
  cases hd:decDigits u with
  |nil=>exact absurd hd (HY u)
  |cons c r=>
   have hc:=Dz u u (Nat.le_refl _) c (by rw[hd];simp);unfold parseIntB;simp only;rw[if_neg o_,<-hd,hU];simp only[e2];rw[if_neg o_,if_neg o_,if_neg o_]
end Go.Dec
namespace Go.Proofs.YtnljjjghpgdmoaaGreatDoor.Rt
open Go.Dec Go.Lib
def sp:List UInt8->List UInt8×Option (List UInt8)
 |[]=>([],none)
 |c::r=>if c=47 then([],some r)else(c::(sp r).1,(sp r).2)
def Gm:∀l:List UInt8,l=(sp l).1++(match(sp l).2 with|none=>[]|some r=>47::r)
 |[]=>rfl
 |c::r=>by
  unfold sp;by_cases h:c=47
  ·rw[if_pos h,h];rfl
  ·rw[if_neg h];have:=Gm r;show c::r=c::((sp r).1++_);rw[<-this]
def Kr:∀(x y:List UInt8),(∀c∈x,c≠47)->sp (x++47::y)=(x,some y)
 |[],y,_=>by simp[sp]
 |c::x,y,h=>by
  show sp (c::(x++47::y))=_;unfold sp;rw[if_neg (h c y_),Kr x y fun d hd=>h d (by simp[hd])]
def Jq:∀(x:List UInt8),(∀c∈x,c≠47)->sp x=(x,none)
 |[],_=>rfl
 |c::x,h=>by
  unfold sp;rw[if_neg (h c y_),Jq x fun d hd=>h d (by simp[hd])]
def Hm:∀l:List UInt8,index l [47]=match(sp l).2 with|none=> -1|some _=>((sp l).1.length:Int)
 |[]=>rfl
 |c::r=>by
  unfold index sp;by_cases h:c=47
  ·subst h;rfl
  ·have hp:[(47:UInt8)].isPrefixOf (c::r)=false:=by
    simp only[List.isPrefixOf,Bool.and_eq_false_iff]
    left
    exact beq_eq_false_iff_ne.2 fun e=>h e.symm
   rw[if_neg (by rw[hp];decide),if_neg h,Hm r];show(if _ then _ else _)=match(sp r).2 with|none=>(-1:Int)|some _=>((c::(sp r).1).length:Int)
   cases(sp r).2 with
   |none=>rfl
   |some y=>
    simp only[List.length_cons];rw[if_neg y_];omega
def Ec:∀l:List UInt8,l.take (sp l).1.length=(sp l).1∧((sp l).2=none->(sp l).1.length=l.length)∧∀r,(sp l).2=some r->(sp l).1.length<l.length∧l.drop ((sp l).1.length+1)=r∧l[(sp l).1.length]? =some 47
 |[]=>⟨rfl,fun _=>rfl,fun r h=>by cases h⟩
 |c::r=>by
  unfold sp;by_cases h:c=47
  ·rw[if_pos h];exact⟨rfl,(fun h=>by cases h),fun y hy=>by cases hy;exact⟨y_,y_,by simp[h]⟩⟩
  ·rw[if_neg h];obtain⟨h1,h2,h3⟩:=Ec r;refine⟨by simp[h1],fun hn=>by simp[h2 hn],fun y hy=>?_⟩;obtain⟨a,b,d⟩:=h3 y hy;exact⟨z_,by simpa using b,by simpa using d⟩
def Adx:∀(l:List UInt8)(i:Nat),i<(sp l).1.length->∃c,l[i]? =some c∧c≠47
 |[],i,h=>by simp[sp]at h
 |c::r,i,h=>by
  unfold sp at h;by_cases hc:c=47
  ·rw[if_pos hc]at h;simp at h
  ·rw[if_neg hc]at h;cases i with
   |zero=>exact⟨c,rfl,hc⟩
   |succ i=>
    obtain⟨d,h1,h2⟩:=Adx r i (by simpa using h);exact⟨d,by simpa using h1,h2⟩
def IE(l:List UInt8):cut l [47]=((sp l).1,(sp l).2.getD [],(sp l).2.isSome):=by
 unfold cut;rw[Hm];obtain⟨h1,h2,h3⟩:=Ec l;cases hs:(sp l).2 with
 |none=>
  simp only[hs];rw[if_neg o_];have:=Gm l;rw[hs]at this;simp only[List.append_nil]at this;rw[<-this];rfl
 |some y=>
  obtain⟨a,b,_⟩:=h3 y hs;simp only[hs];rw[if_pos o_,Int.toNat_natCast,h1];simp only[List.length_cons,List.length_nil,Nat.zero_add,b];rfl
def txL(n d:Int):List UInt8:=if chkE n d=0 then(if d>1 then itoa n++47::itoa d else itoa n)else []
def PS(l:List UInt8):Bool:=decide (l≠[])&&decide ((l.headD 0).toNat=45)
def Jw(l:List UInt8):List UInt8:=if PS l=true then l.tail else l
def TI(l:List UInt8):Int:=match(sp (Jw l)).2 with|none=>1|some b=>JA b
def jB(l:List UInt8):Bool:=match(sp (Jw l)).2 with|none=>true|some b=>P9 b&&decide (JA b>1)
def XI(l:List UInt8):Int:=if PS l=true then-JA (sp (Jw l)).1 else JA (sp (Jw l)).1
def rpE(l:List UInt8):Int:=if P9 (sp (Jw l)).1=true∧jB l=true∧¬(PS l=true∧JA (sp (Jw l)).1=0)∧chkE (XI l) (TI l)=0 then 0 else 12
def rpN(l:List UInt8):Int:=if rpE l=0 then XI l else 0
def rpD(l:List UInt8):Int:=if rpE l=0 then TI l else 0
def Gt{n d:Int}(h:goodR n d):chkE n d=0:=if_pos h
def Kw{c:UInt8}(h:48<=c.toNat∧c.toNat<=57):c≠47∧c.toNat≠45:=⟨fun e=>by subst e;revert h;decide,o_⟩
def rp_sound{l:List UInt8}(h:rpE l=0):goodR (rpN l) (rpD l)∧txL (rpN l) (rpD l)=l:=by
 have e1:rpN l=XI l:=if_pos h;have e2:rpD l=TI l:=if_pos h;unfold rpE at h;split at h
 ·rename_i hc;obtain⟨h1,h2,h3,h4⟩:=hc;rw[e1,e2];refine⟨chk_good h4,?_⟩;obtain⟨d1,d2,d3⟩:=NV h1;have hnum:itoa (XI l)=(if PS l=true then [45]else [])++(sp (Jw l)).1:=by
   unfold XI;by_cases hg:PS l=true
   ·rw[if_pos hg,if_pos hg];obtain⟨u,hu⟩:∃u:Nat,JA (sp (Jw l)).1=(u:Int):=⟨_,(Int.toNat_of_nonneg d1).symm⟩;have h0:JA (sp (Jw l)).1≠0:=fun h0=>h3 ⟨hg,h0⟩;rw[hu]at d3 h0⊢;rw[itoa_neg u o_];rw[Int.toNat_natCast]at d3;rw[d3];rfl
   ·rw[if_neg hg,if_neg hg];obtain⟨u,hu⟩:∃u:Nat,JA (sp (Jw l)).1=(u:Int):=⟨_,(Int.toNat_of_nonneg d1).symm⟩;rw[hu]at d3⊢;rw[itoa_nonneg];rw[Int.toNat_natCast]at d3;rw[d3];rfl
  have hl:l=(if PS l=true then [45]else [])++Jw l:=by
   unfold Jw;by_cases hg:PS l=true
   ·rw[if_pos hg,if_pos hg];unfold PS at hg;simp only[Bool.and_eq_true,decide_eq_true_eq]at hg;cases l with
    |nil=>exact absurd rfl hg.1
    |cons c r=>
     have:c=45:=by
      have h5:c.toNat=45:=hg.2;rw[<-toNat_ofNat c,h5];rfl
     rw[this];rfl
   ·rw[if_neg hg,if_neg hg];rfl
  unfold txL;rw[if_pos h4,hnum];have hsp:=Gm (Jw l);cases hs:(sp (Jw l)).2 with
  |none=>
   rw[hs]at hsp;have hm:TI l=1:=by unfold TI;rw[hs]
   rw[hm,if_neg o_];simp only[List.append_nil]at hsp;rw[<-hsp];exact hl.symm
  |some b=>
   rw[hs]at hsp;have hm:TI l=JA b:=by unfold TI;rw[hs]
   unfold jB at h2;rw[hs]at h2;simp only[Bool.and_eq_true,decide_eq_true_eq]at h2;obtain⟨b1,b2,b3⟩:=NV h2.1;obtain⟨u,hu⟩:∃u:Nat,JA b=(u:Int):=⟨_,(Int.toNat_of_nonneg b1).symm⟩;rw[hm,if_pos h2.2,hu,itoa_nonneg];rw[hu,Int.toNat_natCast]at b3;rw[b3,List.append_assoc,<-hsp];exact hl.symm
 ·cases h
def QP(n:Int):∀c∈itoa n,c≠47:=by
 intro c hc;unfold itoa at hc;split at hc
 ·rcases List.mem_cons.1 hc with rfl|hc
  ·decide
  ·exact(Kw (Dz _ _ (Nat.le_refl _) c hc)).1
 ·exact(Kw (Dz _ _ (Nat.le_refl _) c hc)).1
def sU{n:Int}(hn: -1000000000000000000<=n∧n<=1000000000000000000)(rest:List UInt8)(hr:rest=[]∨∃r,rest=47::r):
  PS (itoa n++rest)=decide (n<0)∧Jw (itoa n++rest)=decDigits n.natAbs++rest:=by
 unfold Jw;by_cases h:n<0
 ·obtain⟨u,rfl⟩:∃u:Nat,n= -(u:Int):=⟨n.natAbs,o_⟩;have hg:PS (itoa (-(u:Int))++rest)=true:=by
   rw[itoa_neg u o_];rfl
  rw[hg,decide_eq_true h,if_pos rfl,itoa_neg u o_];exact⟨rfl,y_⟩
 ·obtain⟨u,rfl⟩:∃u:Nat,n=(u:Int):=⟨n.toNat,o_⟩;have hg:PS (itoa (u:Int)++rest)=false:=by
   rw[itoa_nonneg u];cases hd:decDigits u with
   |nil=>exact absurd hd (HY u)
   |cons c r=>
    have:=(Kw (Dz u u (Nat.le_refl _) c (by rw[hd];simp))).2;unfold PS;simp[this]
  rw[hg,decide_eq_false h,if_neg d_,itoa_nonneg u];exact⟨rfl,y_⟩
def Vo{n d:Int}(h:goodR n d):rpE (txL n d)=0∧rpN (txL n d)=n∧rpD (txL n d)=d:=by
 obtain⟨g1,g2,g3⟩:=id h;obtain⟨k1,k2⟩:=vO n.natAbs o_;have hdig:∀c∈decDigits n.natAbs,c≠47:=fun c hc=>(Kw (Dz _ _ (Nat.le_refl _) c hc)).1;have key:∀l,l=txL n d->PS l=decide (n<0)->(sp (Jw l)).1=decDigits n.natAbs->TI l=d->jB l=true->rpE l=0∧rpN l=n∧rpD l=d:=by
  intro l _ e1 e2 e3 e4;have hv:XI l=n:=by
   unfold XI;rw[e1,e2,k2];by_cases hn:n<0
   ·rw[decide_eq_true hn,if_pos rfl];omega
   ·rw[decide_eq_false hn,if_neg d_];omega
  have hE:rpE l=0:=by
   unfold rpE;rw[if_pos];rw[e2,e1,hv,e3];exact⟨k1,e4,fun⟨h1,h2⟩=>by
    have h1:=of_decide_eq_true h1;rw[k2]at h2;omega,Gt h⟩
  exact⟨hE,(if_pos hE).trans hv,(if_pos hE).trans e3⟩
 have ht:txL n d=(if d>1 then itoa n++47::itoa d else itoa n):=if_pos (Gt h);by_cases hd:d>1
 ·rw[if_pos hd]at ht;obtain⟨r1,r2⟩:=sU g2 (47::itoa d) (.inr ⟨_,rfl⟩);rw[<-ht]at r1 r2;have hs:sp (Jw (txL n d))=(decDigits n.natAbs,some (itoa d)):=by rw[r2];exact Kr _ _ hdig
  obtain⟨u,rfl⟩:∃u:Nat,d=(u:Int):=⟨d.toNat,o_⟩;obtain⟨m1,m2⟩:=vO u o_;rw[itoa_nonneg]at hs;refine key _ rfl r1 (by rw[hs]) ?_ ?_
  ·unfold TI;rw[hs];exact m2
  ·unfold jB;rw[hs];show(P9 (decDigits u)&&decide (JA (decDigits u)>1))=true;rw[m1,m2,decide_eq_true hd];rfl
 ·rw[if_neg hd]at ht;obtain⟨r1,r2⟩:=sU g2 [] (.inl rfl);rw[List.append_nil,<-ht]at r1;rw[List.append_nil,List.append_nil,<-ht]at r2;have hs:sp (Jw (txL n d))=(decDigits n.natAbs,none):=by rw[r2];exact Jq _ hdig
  refine key _ rfl r1 (by rw[hs]) ?_ ?_
  ·unfold TI;rw[hs];show(1:Int)=d;omega
  ·unfold jB;rw[hs]
def Wl(l:List UInt8):Int:=if(sp l).2.getD []=[]then 1 else Qq ((sp l).2.getD [])
def aA(l:List UInt8):Int:=if X0 (sp l).1=false∧((sp l).2.getD []=[]∨X0 ((sp l).2.getD [])=false)∧chkE (Qq (sp l).1) (Wl l)=0∧txL (Qq (sp l).1) (Wl l)=l then 0 else 12
def XV{n:Int}(hn: -1000000000000000000<=n∧n<=1000000000000000000):X0 (itoa n)=false∧Qq (itoa n)=n:=by
 have h:=Qo n o_ o_;unfold X0 Qq;rw[h];exact⟨rfl,rfl⟩
def Aca(n:Int):itoa n≠[]:=by
 unfold itoa;split
 ·simp
 ·exact HY _
def Uu{n d:Int}(h:goodR n d):aA (txL n d)=0∧Qq (sp (txL n d)).1=n∧Wl (txL n d)=d:=by
 obtain⟨g1,g2,g3⟩:=id h;have ht:txL n d=(if d>1 then itoa n++47::itoa d else itoa n):=if_pos (Gt h);obtain⟨a1,a2⟩:=XV g2;obtain⟨b1,b2⟩:=XV (n:=d) o_;have hs:sp (txL n d)=(itoa n,if d>1 then some (itoa d)else none):=by
  rw[ht];by_cases hd:d>1
  ·rw[if_pos hd,if_pos hd];exact Kr _ _ (QP n)
  ·rw[if_neg hd,if_neg hd];exact Jq _ (QP n)
 have hD:Wl (txL n d)=d:=by
  unfold Wl;rw[hs];by_cases hd:d>1
  ·rw[if_pos hd,if_neg (show¬(some (itoa d)).getD []=[]from Aca d)];exact b2
  ·rw[if_neg hd,if_pos (show(none:Option (List UInt8)).getD []=[]from rfl)];omega
 have hN:Qq (sp (txL n d)).1=n:=by rw[hs];exact a2
 refine⟨?_,hN,hD⟩;unfold aA;rw[if_pos];rw[hD,hN];refine⟨by rw[hs];exact a1,?_,Gt h,rfl⟩;rw[hs];by_cases hd:d>1
 ·rw[if_pos hd];exact .inr b1
 ·rw[if_neg hd];exact .inl rfl
def kD(l:List UInt8):rpE l=0∨rpE l=12:=by
 unfold rpE;split
 ·exact .inl rfl
 ·exact .inr rfl
def Aph(l:List UInt8):aA l=rpE l∧(aA l=0->Qq (sp l).1=rpN l∧Wl l=rpD l):=by
 by_cases hp:aA l=0
 ·have hc:X0 (sp l).1=false∧((sp l).2.getD []=[]∨X0 ((sp l).2.getD [])=false)∧chkE (Qq (sp l).1) (Wl l)=0∧txL (Qq (sp l).1) (Wl l)=l:=by
   unfold aA at hp;split at hp
   ·assumption
   ·cases hp
  obtain⟨r1,r2,r3⟩:=Vo (chk_good hc.2.2.1);rw[hc.2.2.2]at r1 r2 r3;exact⟨hp.trans r1.symm,fun _=>⟨r2.symm,r3.symm⟩⟩
 ·refine⟨?_,fun h=>absurd h hp⟩;rcases kD l with hr|hr
  ·obtain⟨g,ht⟩:=rp_sound hr;obtain⟨p1,_,_⟩:=Uu g;rw[ht]at p1;exact absurd p1 hp
  ·rw[hr];unfold aA at hp⊢;split
   ·rename_i h;rw[if_pos h]at hp;exact absurd rfl hp
   ·rfl
end Go.Proofs.YtnljjjghpgdmoaaGreatDoor.Rt

/- Part of a proof of a statement of this seat. No conditions. -/
import Derived.Test.YtkcnkimndhgkgaaGreatDoorXai
import Derived.Shelf.LaysM
import Derived.Shelf.LaysC
import Derived.Shelf.Strconv.Itoa4
import Derived.Shelf.Strconv.ErrVarAll
import Derived.Shelf.Strconv.ParseIntPublic10
import Derived.Shelf.Strings.Cut
import Derived.Shelf.Strings.Split
import Derived.Shelf.Strings.OnBuilder
import Derived.Shelf.Strings.BuilderK
import Derived.Shelf.Strings.MapGrows
import Derived.Lib.AtoiErrMem
import Derived.Lib.ItoaMem
import Derived.WalkKit
import Derived.BigCall
set_option linter.all false
namespace Go.Proofs.YtkcnkimndhgkgaaGreatDoor.Ld
open Go.Ev
set_option maxRecDepth 100000
def ckL(b:Row):Nat->Nat->Int->Bool×Int
 |0,_,s=>(false,s)
 |m+1,j,s=>if b.I j 0< -1000000000∨b.I j 0>1000000000 then(true,s)else ckL b m (j+1) (wi (s+b.I j 0))
def S6(n:Nat)(sum j:Int)(b:Row):St:=⟨us 4++[i64 sum]++us 8++[sl 0 n,i64 n,i64 j]++us 15,[[]],[Rb false b]⟩
def S6r(sum:Int):St:=⟨us 2++[i64 8]++us 1++[i64 sum]++us 26,[[]],[]⟩
def S6x(sum:Int):St:=⟨us 4++[i64 sum]++us 26,[[]],[]⟩
def G6(cd:Nat->Int->Bool):List It->(X->St->OD)->OD
 |[.n n,.i n',.r b],k=>br (cd n n') (br (ckL b n 0 0).1 (k .ret (S6r (ckL b n 0 0).2)) (k (.exit 0) (S6x (ckL b n 0 0).2))) none
 |_,_=>none
def l6(cd:Nat->Int->Bool):LoopC where
 f:=94
 id:=6
 lv:=[4,13,14,15]
 lx:=[2,4]
 p:={τ:=pu 4++[.v (.c (i64 0))]++pu 8++[.v (.sl 0),.v (.int .i64),.v (.c (i64 0))]++pu 15,saved:=[[]],mem:=[.row ks1 false]}
 G:=G6 cd
noncomputable def C2g(cd:Nat->Int->Bool):Cx:=mkCx Tryz.prog fns [] [l6 cd]
theorem round6(cd:Nat->Int->Bool)(R:St->OD)(K:X->St->OD)(p n:Nat)(sum j:Int)(b:Row):evCode (C2g cd) 94 true (inl (C2g cd) (p+4)) (lbody (C2g cd).P 94 6) (S6 n sum j b) (rnd [4,13,14,15] (some [2,4]) R K)=br (j<(n:Int)) (br (0<=j&&j<(n:Int)) (br (b.I (0+j.toNat) 0< -1000000000) (K .ret (S6r sum)) (br (b.I (0+j.toNat) 0>1000000000) (K .ret (S6r sum)) (R (S6 n (wi (sum+b.I (0+j.toNat) 0)) (wi (j+1)) b)))) none) (K (.exit 0) (S6x sum)):=by kernel_rfl
def inCk(n:Nat)(m:Int):Bool:=m=n∧n<=1000
noncomputable def C2:Cx:=C2g inCk
theorem go6{f:St->(X->St->OD)->OD}{lv:List Tmp}{lx:Option (List Tmp)}{S:Int->Int->St}{Sr Sx:Int->St}{n:Nat}{b:Row}(hn:n<=1000)
  (hr:∀(sum:Int)(j:Nat) R K,f (S sum j) (rnd lv lx R K)=if j<n then(if b.I j 0< -1000000000∨b.I j 0>1000000000 then K .ret (Sr sum)else R (S (wi (sum+b.I j 0)) (j+1:Nat)))else K (.exit 0) (Sx sum)) (K:X->St->OD):
  ∀(m fu j:Nat)(s:Int),j+m=n->m<fu->rounds lv lx f fu (S s j) K=br (ckL b m j s).1 (K .ret (Sr (ckL b m j s).2)) (K (.exit 0) (Sx (ckL b m j s).2))
 |0,fu+1,j,s,h0,h1=>by
  rw[rnds1,hr,AL (by omega)];rfl
 |m+1,fu+1,j,s,h0,h1=>by
  rw[rnds1,hr,AM (by omega)];unfold ckL;by_cases hb:b.I j 0< -1000000000∨b.I j 0>1000000000
  ·rw[AM hb,AM hb];rfl
  ·rw[AL hb,AL hb];exact go6 hn hr K m fu (j+1) _ (by omega) (by omega)
theorem loop6:LoopOk C2 (l6 inCk):=⟨by kernel_rfl,fun q its k rr h=>by
 show rounds [4,13,14,15] (some [2,4]) (evCode C2 94 true (inl C2 (q+4)) (lbody C2.P 94 6)) 18446744073709551616 (bst (l6 inCk).p its) k=some rr;change G6 inCk its k=some rr at h;unfold G6 at h;split at h
 ·rename_i n n' b;rcases br_some h with⟨h1,h2⟩|⟨_,h2⟩
  ·obtain⟨k1,k2⟩:=AD h1;subst k1;rw[<-h2];exact go6 (S:=fun s j=>S6 n s j b) (Sr:=S6r) (Sx:=S6x) k2 (fun sum j R K=>by
    refine(round6 inCk R K q n sum j b).trans ?_;by_cases hj:j<n
    ·rw[AM hj,A4 (show(j:Int)<(n:Int) by omega),br_true,A4 (show(0:Int)<=(j:Int) by omega),show(true&&true)=true from rfl,br_true,A9,AE,wiN (n:=(j:Int)+1) (by omega) (by omega)];by_cases h1:b.I j 0< -1000000000
     ·rw[A4 h1,br_true,AM (.inl h1)]
     ·rw[AB h1,br_false];by_cases h2:b.I j 0>1000000000
      ·rw[A4 h2,br_true,AM (.inr h2)]
      ·rw[AB h2,br_false,AL (by omega)];rfl
    ·rw[AL hj,AB (show¬(j:Int)<(n:Int) by omega),br_false]) k n 18446744073709551616 0 0 (by omega) (by omega)
  ·cases h2
 ·cases h⟩
theorem C2_ok:CxOk C2:=mkCx_ok enter mixed (fun p h=>by cases h) (fun l h=>by
 simp only[A8,A7,or_false]at h;subst h;exact loop6)
def ckB(b:Row):Bool:=(ckL b b.n 0 0).1
def ckS(b:Row):Int:=(ckL b b.n 0 0).2
def ckE(b:Row):Int:=if b.n<1∨10<b.n then 2 else if ckB b=true∨ckS b≠0 then 8 else 0
def Fck:FD
 |[.slice [.int .i64] b]=>some (true,[.v (i64 (ckE b))])
 |_=>none
theorem tcheck(cd:Nat->Int->Bool)(b:Row):evF (C2g cd) 6 94 [.slice ks1 b]=br ((b.n:Int)<1) (some [.v (i64 2)]) (br ((b.n:Int)>10) (some [.v (i64 2)]) (br (cd b.n b.n) (br (ckB b) (some [.v (i64 8)]) (br (ckS b !=0) (some [.v (i64 8)]) (some [.v (i64 0)]))) none)):=by kernel_rfl
theorem ck_tail(b:Row)(h:¬(b.n<1∨10<b.n)):br (ckB b) (some [D.v (i64 8)]) (br (ckS b !=0) (some [.v (i64 8)]) (some [.v (i64 0)]))=some [.v (i64 (ckE b))]:=by
 unfold ckE;rw[AL h];cases hb:ckB b
 ·by_cases hs:ckS b=0
  ·rw[br_false,show(ckS b !=0)=false by simpa using hs,br_false,AL (by rintro(h|h);exact absurd h (by decide);exact h hs)]
  ·rw[br_false,show(ckS b !=0)=true by simpa using hs,br_true,AM (.inr hs)]
 ·rw[br_true,AM (.inl rfl)]
theorem den_ck:Den Tryz.prog 94 Fck:=evF_den C2_ok fun ds rs h=>by
 unfold Fck at h;split at h
 ·rename_i b;simp only[A5,A6,true_and]at h;subst h;refine(tcheck inCk b).trans ?_;by_cases h1:(b.n:Int)<1
  ·rw[A4 h1,br_true];unfold ckE;rw[AM (by omega)]
  ·rw[AB h1,br_false];by_cases h2:(b.n:Int)>10
   ·rw[A4 h2,br_true];unfold ckE;rw[AM (by omega)]
   ·rw[AB h2,br_false,show inCk b.n b.n=true from A4 ⟨rfl,by omega⟩,br_true,ck_tail b (by omega)]
 ·cases h
def rsU(b:Row)(j:Nat)(x:Nat×Row):Nat×Row:=(if b.I j 0≠0 then x.1|||2^j else x.1,x.2.setI j 0 (-1))
def rsR(b:Row):Nat->Nat->Nat×Row->Nat×Row
 |0,_,x=>x
 |m+1,j,x=>rsR b m (j+1) (rsU b j x)
def befN(g h:Nat):Bool:= !Nat.beq (((g^^^h)&&&(18446744073709551616-(g^^^h)))&&&g) 0
def bstU(m:Row)(rest low g best:Nat):Nat:=if g&&&low=0∨m.I g 0<1∨m.I (rest^^^g) 0≠wi (m.I rest 0-1)then best else if best=0∨befN g best=true then g else best
def bst(m:Row)(rest low:Nat):Nat->Nat->Nat->Nat
 |0,_,best=>best
 |n+1,g,best=>if g=0 then best else bst m rest low n ((g-1)&&&rest) (bstU m rest low g best)
def asR(best:Nat)(group:Int):Nat->Nat->Row->Row
 |0,_,o=>o
 |m+1,j,o=>asR best group m (j+1) (if best.testBit j=true then o.setI j 0 group else o)
def lowN(s:Nat):Nat:=s&&&(18446744073709551616-s)
def grS(m:Row)(n:Nat):Nat->Nat->Nat->Row->Option Row
 |f,rest,group,o=>if rest=0 then some o else match f with
  |0=>none
  |f+1=>grS m n f (rest^^^bst m rest (lowN rest) (rest+1) rest 0) (group+1) (asR (bst m rest (lowN rest) (rest+1) rest 0) group n 0 o)
def S7(nb n n':Nat)(m rest j:Int)(b o:Row):St:=⟨[sl 0 nb]++us 4++[sl 1 n,i64 rest]++us 16++[sl 0 n',i64 m,i64 j]++us 83,[[]],[Rb false b,Rb true o]⟩
def S7x(nb n:Nat)(rest:Int)(b o:Row):St:=⟨[sl 0 nb]++us 4++[sl 1 n,i64 rest]++us 102,[[]],[Rb false b,Rb true o]⟩
def G7(cd:Nat->Nat->Nat->Int->Bool):List It->(X->St->OD)->OD
 |[.n nb,.n n,.n n',.i m,.r b,.r o],k=>br (cd nb n n' m) (k (.exit 0) (S7x nb n (rsR b n 0 (0,o)).1 b (rsR b n 0 (0,o)).2)) none
 |_,_=>none
def l7(cd:Nat->Nat->Nat->Int->Bool):LoopC where
 f:=46
 id:=7
 lv:=[0,5,6,23,24,25]
 lx:=[0,2,3,5,6]
 p:={τ:=[.v (.sl 0)]++pu 4++[.v (.sl 1),.v (.c (i64 0))]++pu 16++[.v (.sl 0),.v (.int .i64),.v (.c (i64 0))]++pu 83,saved:=[[]],mem:=[.row ks1 false,.row ks1 true]}
 G:=G7 cd
def S20(nb no nm:Nat)(rest group low best g:Int)(b o m:Row):St:=⟨[sl 0 nb]++us 4++[sl 1 no,i64 rest]++us 2++[sl 2 nm,i64 group,i64 low,i64 best,i64 g]++us 95,[[]],[Rb false b,Rb true o,Rb true m]⟩
def S20x(nb no nm:Nat)(rest group best:Int)(b o m:Row):St:=⟨[sl 0 nb]++us 4++[sl 1 no,i64 rest]++us 2++[sl 2 nm,i64 group]++us 1++[i64 best]++us 96,[[]],[Rb false b,Rb true o,Rb true m]⟩
def G20(cd:Nat->Int->Int->Int->Int->Bool):List It->(X->St->OD)->OD
 |[.n nb,.n no,.i rest,.n nm,.i group,.i low,.i best,.i g,.r b,.r o,.r m],k=>br (cd nm rest low best g) (k (.exit 4) (S20x nb no nm rest group (bst m rest.toNat low.toNat (g.toNat+1) g.toNat 0:Nat) b o m)) none
 |_,_=>none
def l20(cd:Nat->Int->Int->Int->Int->Bool):LoopC where
 f:=46
 id:=20
 lv:=[0,5,6,9,10,11,12,13]
 lx:=[0,2,3,5,6,9,10,12]
 p:={τ:=[.v (.sl 0)]++pu 4++[.v (.sl 1),.v (.int .i64)]++pu 2++[.v (.sl 2),.v (.int .i64),.v (.int .i64),.v (.int .i64),.v (.int .i64)]++pu 95,saved:=[[]],mem:=[.row ks1 false,.row ks1 true,.row ks1 true]}
 G:=G20 cd
def S26(nb no nm:Nat)(rest group best c j:Int)(b o m:Row):St:=⟨[sl 0 nb]++us 4++[sl 1 no,i64 rest]++us 2++[sl 2 nm,i64 group]++us 1++[i64 best]++us 78++[i64 c,i64 j]++us 16,[[]],[Rb false b,Rb true o,Rb true m]⟩
def G26(cd:Nat->Int->Int->Bool):List It->(X->St->OD)->OD
 |[.n nb,.n no,.i rest,.n nm,.i group,.i best,.i c,.r b,.r o,.r m],k=>br (cd no best c) (k (.exit 6) (S20x nb no nm rest group best b (asR best.toNat group no 0 o) m)) none
 |_,_=>none
def l26(cd:Nat->Int->Int->Bool):LoopC where
 f:=46
 id:=26
 lv:=[0,5,6,9,10,12,91,92]
 lx:=[0,2,3,5,6,9,10,12]
 p:={τ:=[.v (.sl 0)]++pu 4++[.v (.sl 1),.v (.int .i64)]++pu 2++[.v (.sl 2),.v (.int .i64)]++pu 1++[.v (.int .i64)]++pu 78++[.v (.int .i64),.v (.c (i64 0))]++pu 16,saved:=[[]],mem:=[.row ks1 false,.row ks1 true,.row ks1 true]}
 G:=G26 cd
def S15(nb no nm:Nat)(rest group:Int)(b o m:Row):St:=⟨[sl 0 nb]++us 4++[sl 1 no,i64 rest]++us 2++[sl 2 nm,i64 group]++us 98,[[]],[Rb false b,Rb true o,Rb true m]⟩
def S15x(no:Nat)(o:Row):St:=⟨us 5++[sl 0 no]++us 103,[[]],[Rb true o]⟩
def G15(gs:Nat->Nat->Nat->Int->Row->Row->Option Row):List It->(X->St->OD)->OD
 |[.n nb,.n no,.i rest,.n nm,.r _,.r o,.r m],k=>match gs nb no nm rest o m with|some o'=>k (.exit 2) (S15x no o')|none=>none
 |_,_=>none
def l15(gs:Nat->Nat->Nat->Int->Row->Row->Option Row):LoopC where
 f:=46
 id:=15
 lv:=[0,5,6,9,10]
 lx:=[2,3,5]
 p:={τ:=[.v (.sl 0)]++pu 4++[.v (.sl 1),.v (.int .i64)]++pu 2++[.v (.sl 2),.v (.c (i64 0))]++pu 98,saved:=[[]],mem:=[.row ks1 false,.row ks1 true,.row ks1 true]}
 G:=G15 gs
noncomputable def C3g(c7:Nat->Nat->Nat->Int->Bool)(c20:Nat->Int->Int->Int->Int->Bool)(c26:Nat->Int->Int->Bool)(gs:Nat->Nat->Nat->Int->Row->Row->Option Row):Cx:=mkCx Tryz.prog fns [(94,Fck),(95,Fmost)] [l7 c7,l20 c20,l26 c26,l15 gs]
section
variable(c7:Nat->Nat->Nat->Int->Bool)(c20:Nat->Int->Int->Int->Int->Bool)(c26:Nat->Int->Int->Bool)(gs:Nat->Nat->Nat->Int->Row->Row->Option Row)
theorem round7(R:St->OD)(K:X->St->OD)(p nb n n':Nat)(m rest j:Int)(b o:Row):evCode (C3g c7 c20 c26 gs) 46 true (inl (C3g c7 c20 c26 gs) (p+4)) (lbody (C3g c7 c20 c26 gs).P 46 7) (S7 nb n n' m rest j b o) (rnd [0,5,6,23,24,25] (some [0,2,3,5,6]) R K)=br (j<m) (br (0<=j&&j<(n':Int)) (br (0<=j&&j<(n:Int)) (br (b.I (0+j.toNat) 0 !=0) (br (j<0) none (R (S7 nb n n' m (bOr rest (wi (1*2^min j.toNat 64))) (wi (j+1)) b (o.setI (0+j.toNat) 0 (-1))))) (R (S7 nb n n' m rest (wi (j+1)) b (o.setI (0+j.toNat) 0 (-1))))) none) none) (K (.exit 0) (S7x nb n rest b o)):=by kernel_rfl
def bef(g h:Int):Bool:=bAnd (bAnd (bXor g h) (wi (0-bXor g h))) g !=0
theorem round20(R:St->OD)(K:X->St->OD)(p nb no nm:Nat)(rest group low best g:Int)(b o m:Row):evCode (C3g c7 c20 c26 gs) 46 true (inl (C3g c7 c20 c26 gs) (p+4)) (lbody (C3g c7 c20 c26 gs).P 46 20) (S20 nb no nm rest group low best g b o m) (rnd [0,5,6,9,10,11,12,13] (some [0,2,3,5,6,9,10,12]) R K)=br (g>0) (br (bAnd g low==0) (R (S20 nb no nm rest group low best (bAnd (wi (g-1)) rest) b o m)) (br (0<=g&&g<(nm:Int)) (br (m.I (0+g.toNat) 0<1) (R (S20 nb no nm rest group low best (bAnd (wi (g-1)) rest) b o m)) (br (0<=bXor rest g&&bXor rest g<(nm:Int)) (br (0<=rest&&rest<(nm:Int)) (br (m.I (0+(bXor rest g).toNat) 0 !=wi (m.I (0+rest.toNat) 0-1)) (R (S20 nb no nm rest group low best (bAnd (wi (g-1)) rest) b o m)) (br (best==0) (R (S20 nb no nm rest group low g (bAnd (wi (g-1)) rest) b o m)) (br (bef g best) (R (S20 nb no nm rest group low g (bAnd (wi (g-1)) rest) b o m)) (R (S20 nb no nm rest group low best (bAnd (wi (g-1)) rest) b o m))))) none) none)) none)) (K (.exit 4) (S20x nb no nm rest group best b o m)):=by kernel_rfl
theorem round26(R:St->OD)(K:X->St->OD)(p nb no nm:Nat)(rest group best c j:Int)(b o m:Row):evCode (C3g c7 c20 c26 gs) 46 true (inl (C3g c7 c20 c26 gs) (p+4)) (lbody (C3g c7 c20 c26 gs).P 46 26) (S26 nb no nm rest group best c j b o m) (rnd [0,5,6,9,10,12,91,92] (some [0,2,3,5,6,9,10,12]) R K)=br (j<c) (br (j<0) none (br (bAnd (bShr best j) 1==1) (br (0<=j&&j<(no:Int)) (R (S26 nb no nm rest group best c (wi (j+1)) b (o.setI (0+j.toNat) 0 group) m)) none) (R (S26 nb no nm rest group best c (wi (j+1)) b o m)))) (K (.exit 6) (S20x nb no nm rest group best b o m)):=by kernel_rfl
theorem round15(R:St->OD)(K:X->St->OD)(p nb no nm:Nat)(rest group:Int)(b o m:Row):evCode (C3g c7 c20 c26 gs) 46 true (inl (C3g c7 c20 c26 gs) (p+4)) (lbody (C3g c7 c20 c26 gs).P 46 15) (S15 nb no nm rest group b o m) (rnd [0,5,6,9,10] (some [2,3,5]) R K)=br (rest !=0) (br (c20 nm rest (bAnd rest (wi (0-rest))) 0 rest) (br (c26 no (bst m rest.toNat (bAnd rest (wi (0-rest))).toNat (rest.toNat+1) rest.toNat 0:Nat) nb) (R (S15 nb no nm (bXor rest (bst m rest.toNat (bAnd rest (wi (0-rest))).toNat (rest.toNat+1) rest.toNat 0:Nat)) (wi (group+1)) b (asR (bst m rest.toNat (bAnd rest (wi (0-rest))).toNat (rest.toNat+1) rest.toNat 0) group no 0 o) m)) none) none) (K (.exit 2) (S15x no o)):=by kernel_rfl
end
theorem sub_xor{r g:Nat}(h:g&&&r=g):(r^^^g)&&&r=r^^^g:=by
 apply Nat.eq_of_testBit_eq;intro i;have hi:=congrArg (fun x=>x.testBit i) h;simp only[Nat.testBit_and,Nat.testBit_xor]at hi⊢;cases h1:g.testBit i<;>cases h2:r.testBit i<;>simp_all
theorem xor_le{r g:Nat}(h:g&&&r=g):r^^^g<=r:=by rw[<-sub_xor h];exact Nat.and_le_right
theorem sub_le{r g:Nat}(h:g&&&r=g):g<=r:=by rw[<-h];exact Nat.and_le_right
theorem bNegAnd(x:Nat)(hx:x<9223372036854775808):bAnd (x:Int) (wi (0-(x:Int)))=((x&&&(18446744073709551616-x):Nat):Int):=by
 rw[wiN (by omega) (by omega),Int.zero_sub];by_cases h0:x=0
 ·subst h0;rfl
 ·have h1:(BitVec.ofInt 64 (-(x:Int))).toNat=18446744073709551616-x:=by
   rw[BitVec.toNat_ofInt];omega
  unfold bAnd;have h:x&&&(18446744073709551616-x)<=x:=Nat.and_le_left;rw[BitVec.toNat_and,ofI x (by omega),h1];exact wrap64 (by omega) (by omega)
theorem befN_eq(g h:Nat)(hg:g<4611686018427387904)(hh:h<4611686018427387904):bef (g:Int) (h:Int)=befN g h:=by
 unfold bef befN;have hx:g^^^h<2^62:=Nat.xor_lt_two_pow (by omega) (by omega);have hl:(g^^^h)&&&(18446744073709551616-(g^^^h))<=g^^^h:=Nat.and_le_left;rw[bXorN g h (by omega) (by omega),bNegAnd _ (by omega),bAndN _ g (by omega) (by omega)];generalize(g^^^h)&&&(18446744073709551616-(g^^^h))&&&g=x;by_cases h0:x=0
 ·subst h0;rfl
 ·have hq:Nat.beq x 0=false:=by
   cases hx:Nat.beq x 0
   ·rfl
   ·exact absurd (AF hx) h0
  rw[hq];exact bne_iff_ne.mpr (by omega)
def in7(_nb n n':Nat)(m:Int):Bool:=n=n'∧m=n∧n<=60
def in20(nm:Nat)(rest low best g:Int):Bool:=0<=rest∧rest<nm∧nm<=4611686018427387904∧0<=low∧low<4611686018427387904∧best=0∧g=rest
def in26(no:Nat)(best c:Int):Bool:=0<=best∧best<4611686018427387904∧c=no∧no<=60
def gs15(nb no nm:Nat)(rest:Int)(o m:Row):Option Row:=if 0<=rest∧rest<nm∧nm<=4611686018427387904∧nb=no∧no<=60 then grS m no 64 rest.toNat 0 o else none
noncomputable def C3:Cx:=C3g in7 in20 in26 gs15
theorem go7{f:St->(X->St->OD)->OD}{lv:List Tmp}{lx:Option (List Tmp)}{nb n:Nat}{b:Row}(hn:n<=60)
  (hr:∀(rest j:Int)(o:Row) R K,f (S7 nb n n n rest j b o) (rnd lv lx R K)=br (decide (j<(n:Int))) (br (decide (0<=j)&&decide (j<(n:Int))) (br (decide (0<=j)&&decide (j<(n:Int))) (br (b.I (0+j.toNat) 0 !=0) (br (decide (j<0)) none (R (S7 nb n n n (bOr rest (wi (1*2^min j.toNat 64))) (wi (j+1)) b (o.setI (0+j.toNat) 0 (-1))))) (R (S7 nb n n n rest (wi (j+1)) b (o.setI (0+j.toNat) 0 (-1))))) none) none)
   (K (.exit 0) (S7x nb n rest b o))) (K:X->St->OD):
  ∀(m fu j rest:Nat)(o:Row),j+m=n->m<fu->rest<2^j->rounds lv lx f fu (S7 nb n n n rest j b o) K=K (.exit 0) (S7x nb n (rsR b m j (rest,o)).1 b (rsR b m j (rest,o)).2)
 |0,fu+1,j,rest,o,h0,h1,h2=>by
  rw[rnds1,hr,AB (show¬(j:Int)<(n:Int) by omega),br_false];rfl
 |m+1,fu+1,j,rest,o,h0,h1,h2=>by
  have hp:2^j<=2^60:=Nat.pow_le_pow_right (by decide) (by omega);have hp2:2^(j+1)=2*2^j:=by rw[Nat.pow_succ,Nat.mul_comm]
  have hor:rest|||2^j<2^(j+1):=Nat.or_lt_two_pow (by omega) (by omega);have hj:(decide (0<=(j:Int))&&decide ((j:Int)<(n:Int)))=true:=by simp only[A2,A3];omega
  have h2j:wi (1*2^min j 64)=((2^j:Nat):Int):=by
   rw[Nat.min_eq_left (by omega),Int.one_mul,show(2:Int)^j=((2^j:Nat):Int) by rw[Int.natCast_pow];rfl];generalize 2^j=x at hp⊢;exact wiN (by omega) (by omega)
  have hbo:bOr (rest:Int) ((2^j:Nat):Int)=((rest|||2^j:Nat):Int):=bOrN _ _ (by omega) (by omega);rw[rnds1,hr,hj,A4 (show(j:Int)<(n:Int) by omega),br_true,br_true,br_true,A9,AE,wiN (n:=(j:Int)+1) (by omega) (by omega),show(j:Int)+1=((j+1:Nat):Int) by omega,h2j,hbo,AB (show¬(j:Int)<0 by omega),br_false];unfold rsR rsU;by_cases hb:b.I j 0=0
  ·rw[show(b.I j 0 !=0)=false by simpa using hb,br_false,AL (fun h=>h hb)];exact go7 hn hr K m fu (j+1) rest _ (by omega) (by omega) (by omega)
  ·rw[show(b.I j 0 !=0)=true by simpa using hb,br_true,AM hb];exact go7 hn hr K m fu (j+1) (rest|||2^j) _ (by omega) (by omega) hor
theorem go20{f:St->(X->St->OD)->OD}{lv:List Tmp}{lx:Option (List Tmp)}{nb no nm rest low:Nat}{group:Int}{b o m:Row}(hrest:rest<nm)(hnm:nm<=4611686018427387904)(hlow:low<4611686018427387904)
  (hr:∀(best g:Int) R K,f (S20 nb no nm rest group low best g b o m) (rnd lv lx R K)=
   br (decide (g>0)) (br (bAnd g low==0) (R (S20 nb no nm rest group low best (bAnd (wi (g-1)) rest) b o m)) (br (decide (0<=g)&&decide (g<(nm:Int))) (br (decide (m.I (0+g.toNat) 0<1)) (R (S20 nb no nm rest group low best (bAnd (wi (g-1)) rest) b o m))
    (br (decide (0<=bXor rest g)&&decide (bXor rest g<(nm:Int))) (br (decide (0<=(rest:Int))&&decide ((rest:Int)<(nm:Int))) (br (m.I (0+(bXor rest g).toNat) 0 !=wi (m.I (0+(rest:Int).toNat) 0-1)) (R (S20 nb no nm rest group low best (bAnd (wi (g-1)) rest) b o m))
     (br (best==0) (R (S20 nb no nm rest group low g (bAnd (wi (g-1)) rest) b o m)) (br (bef g best) (R (S20 nb no nm rest group low g (bAnd (wi (g-1)) rest) b o m)) (R (S20 nb no nm rest group low best (bAnd (wi (g-1)) rest) b o m))))) none) none)) none))
    (K (.exit 4) (S20x nb no nm rest group best b o m))) (K:X->St->OD):
  ∀(n fu g best:Nat),g&&&rest=g->best<=rest->g<n->n<=fu->rounds lv lx f fu (S20 nb no nm rest group low best g b o m) K=K (.exit 4) (S20x nb no nm rest group (bst m rest low n g best:Nat) b o m)
 |n+1,fu+1,g,best,h0,hbest,h1,h2=>by
  have hgs:=sub_le h0;have hxl:=xor_le h0;rw[rnds1,hr];unfold bst;by_cases hg:g=0
  ·rw[AM hg,AB (show¬(g:Int)>0 by omega),br_false]
  ·have hnext:bAnd (wi ((g:Int)-1)) (rest:Int)=(((g-1)&&&rest:Nat):Int):=by
    rw[wiN (by omega) (by omega),show(g:Int)-1=((g-1:Nat):Int) by omega];exact bAndN _ _ (by omega) (by omega)
   have hle:(g-1)&&&rest<=g-1:=Nat.and_le_left;have hsub:((g-1)&&&rest)&&&rest=(g-1)&&&rest:=by rw[Nat.and_assoc,Nat.and_self]
   have ih:=fun best' hb'=>go20 hrest hnm hlow hr K n fu ((g-1)&&&rest) best' hsub hb' (by omega) (by omega);have hgl:g&&&low<=g:=Nat.and_le_left;have hrng:(decide (0<=(rest:Int))&&decide ((rest:Int)<(nm:Int)))=true:=by simp only[A2,A3];omega
   rw[AL hg,A4 (show(g:Int)>0 by omega),br_true,hnext,bAndN g low (by omega) (by omega),bXorN rest g (by omega) (by omega),A9,A9,A9,AE,AE,AE,hrng,
    show(decide (0<=(g:Int))&&decide ((g:Int)<(nm:Int)))=true by simp only[A2,A3];omega,
    show(decide (0<=((rest^^^g:Nat):Int))&&decide (((rest^^^g:Nat):Int)<(nm:Int)))=true by simp only[A2,A3];omega,br_true,br_true,br_true,befN_eq g best (by omega) (by omega)]
   unfold bstU;by_cases c1:g&&&low=0
   ·rw[c1,show(((0:Nat):Int)==0)=true from rfl,br_true,AM (.inl rfl)];exact ih best hbest
   ·rw[show(((g&&&low:Nat):Int)==0)=false from beq_eq_false_iff_ne.mpr (by omega),br_false];by_cases c2:m.I g 0<1
    ·rw[A4 c2,br_true,AM (.inr (.inl c2))];exact ih best hbest
    ·rw[AB c2,br_false];by_cases c3:m.I (rest^^^g) 0=wi (m.I rest 0-1)
     ·rw[show(m.I (rest^^^g) 0 !=wi (m.I rest 0-1))=false by simpa using c3,br_false,AL (by rintro(h|h|h);exact c1 h;exact c2 h;exact h c3)];by_cases c4:best=0
      ·rw[show((best:Int)==0)=true from beq_iff_eq.mpr (by omega),br_true,AM (.inl c4)];exact ih g hgs
      ·rw[show((best:Int)==0)=false from beq_eq_false_iff_ne.mpr (by omega),br_false];cases c5:befN g best
       ·rw[br_false,AL (by rintro(h|h);exact c4 h;exact absurd h (by decide))];exact ih best hbest
       ·rw[br_true,AM (.inr rfl)];exact ih g hgs
     ·rw[show(m.I (rest^^^g) 0 !=wi (m.I rest 0-1))=true by simpa using c3,br_true,AM (.inr (.inr c3))];exact ih best hbest
theorem go26{f:St->(X->St->OD)->OD}{lv:List Tmp}{lx:Option (List Tmp)}{nb no nm best:Nat}{rest group:Int}{b m:Row}(hb:best<4611686018427387904)(hn:no<=60)
  (hr:∀(j:Int)(o:Row) R K,f (S26 nb no nm rest group best no j b o m) (rnd lv lx R K)=br (decide (j<(no:Int))) (br (decide (j<0)) none (br (bAnd (bShr best j) 1==1) (br (decide (0<=j)&&decide (j<(no:Int))) (R (S26 nb no nm rest group best no (wi (j+1)) b (o.setI (0+j.toNat) 0 group) m)) none) (R (S26 nb no nm rest group best no (wi (j+1)) b o m))))
   (K (.exit 6) (S20x nb no nm rest group best b o m))) (K:X->St->OD):
  ∀(k fu j:Nat)(o:Row),j+k=no->k<fu->rounds lv lx f fu (S26 nb no nm rest group best no j b o m) K=K (.exit 6) (S20x nb no nm rest group best b (asR best group k j o) m)
 |0,fu+1,j,o,h0,h1=>by
  rw[rnds1,hr,AB (show¬(j:Int)<(no:Int) by omega),br_false];rfl
 |k+1,fu+1,j,o,h0,h1=>by
  rw[rnds1,hr,show(decide (0<=(j:Int))&&decide ((j:Int)<(no:Int)))=true by simp only[A2,A3];omega,A4 (show(j:Int)<(no:Int) by omega),br_true,AB (show¬(j:Int)<0 by omega),br_false,bit_iff best j (by omega) (by omega),
   br_true,A9,AE,wiN (n:=(j:Int)+1) (by omega) (by omega),show(j:Int)+1=((j+1:Nat):Int) by omega]
  unfold asR;cases hbit:best.testBit j
  ·rw[br_false,AL (by decide)];exact go26 hb hn hr K k fu (j+1) o (by omega) (by omega)
  ·rw[br_true,AM rfl];exact go26 hb hn hr K k fu (j+1) _ (by omega) (by omega)
theorem bst_sub{m:Row}{rest low:Nat}:∀(n g best:Nat),g&&&rest=g->best&&&rest=best->bst m rest low n g best&&&rest=bst m rest low n g best
 |0,g,best,_,h=>h
 |n+1,g,best,hg,hb=>by
  unfold bst;split
  ·exact hb
  ·refine bst_sub n _ _ (by rw[Nat.and_assoc,Nat.and_self]) ?_;unfold bstU;split
   ·exact hb
   ·split
    ·exact hg
    ·exact hb
theorem low_le(s:Nat):lowN s<=s:=Nat.and_le_left
theorem go15{f:St->(X->St->OD)->OD}{lv:List Tmp}{lx:Option (List Tmp)}{nb no nm:Nat}{b m:Row}(hnm:nm<=4611686018427387904)(hno:nb=no∧no<=60)
  (hr:∀(rest group:Int)(o:Row) R K,f (S15 nb no nm rest group b o m) (rnd lv lx R K)=
   br (rest !=0) (br (in20 nm rest (bAnd rest (wi (0-rest))) 0 rest)
    (br (in26 no (bst m rest.toNat (bAnd rest (wi (0-rest))).toNat (rest.toNat+1) rest.toNat 0:Nat) nb)
     (R (S15 nb no nm (bXor rest (bst m rest.toNat (bAnd rest (wi (0-rest))).toNat (rest.toNat+1) rest.toNat 0:Nat)) (wi (group+1)) b (asR (bst m rest.toNat (bAnd rest (wi (0-rest))).toNat (rest.toNat+1) rest.toNat 0) group no 0 o) m)) none) none)
    (K (.exit 2) (S15x no o))) (K:X->St->OD):
  ∀(k fu rest group:Nat)(o o':Row),grS m no k rest group o=some o'->k<fu->rest<nm->group+k<=1000->rounds lv lx f fu (S15 nb no nm rest group b o m) K=K (.exit 2) (S15x no o'):=by
 intro k
 induction k with
 |zero=>
  intro fu rest group o o' h hk _ _;obtain⟨fu,rfl⟩:∃fu',fu=fu'+1:=⟨fu-1,by omega⟩;unfold grS at h;split at h
  ·rename_i h0;cases h;rw[rnds1,hr,h0];rfl
  ·cases h
 |succ k ih=>
  intro fu rest group o o' h hk hrest hgr;obtain⟨fu,rfl⟩:∃fu',fu=fu'+1:=⟨fu-1,by omega⟩;unfold grS at h;by_cases h0:rest=0
  ·rw[AM h0]at h;cases h;rw[rnds1,hr,h0];rfl
  ·rw[AL h0]at h;have hs:=bst_sub (m:=m) (low:=lowN rest) (rest+1) rest 0 (Nat.and_self rest) (Nat.zero_and rest);have hl:=low_le rest;have hle:=sub_le hs;have hxl:=xor_le hs;rw[rnds1,hr,show((rest:Int) !=0)=true from bne_iff_ne.mpr (by omega),br_true,bNegAnd rest (by omega),show rest&&&(18446744073709551616-rest)=lowN rest from rfl,A9,A9,
    show in20 nm rest (lowN rest:Nat) 0 rest=true from A4 ⟨by omega,by omega,hnm,by omega,by omega,rfl,rfl⟩,br_true]
   generalize bst m rest (lowN rest) (rest+1) rest 0=best at*
   rw[show in26 no (best:Nat) nb=true from A4 ⟨by omega,by omega,by omega,hno.2⟩,br_true,bXorN rest best (by omega) (by omega),wiN (n:=(group:Int)+1) (by omega) (by omega),show(group:Int)+1=((group+1:Nat):Int) by omega];exact ih fu (rest^^^best) (group+1) _ o' h (by omega) (by omega) (by omega)
theorem loop7:LoopOk C3 (l7 in7):=⟨by kernel_rfl,fun q its k rr h=>by
 show rounds [0,5,6,23,24,25] (some [0,2,3,5,6]) (evCode C3 46 true (inl C3 (q+4)) (lbody C3.P 46 7)) 18446744073709551616 (Go.Ev.bst (l7 in7).p its) k=some rr;change G7 in7 its k=some rr at h;unfold G7 at h;split at h
 ·rename_i nb n n' m b o;rcases br_some h with⟨h1,h2⟩|⟨_,h2⟩
  ·obtain⟨k1,k2,k3⟩:=AD h1;subst k1;subst k2;rw[<-h2];exact go7 (nb:=nb) (b:=b) k3 (fun rest j o R K=>round7 in7 in20 in26 gs15 R K q nb n n n rest j b o) k n 18446744073709551616 0 0 o (by omega) (by omega) (by decide)
  ·cases h2
 ·cases h⟩
theorem loop20:LoopOk C3 (l20 in20):=⟨by kernel_rfl,fun q its k rr h=>by
 show rounds [0,5,6,9,10,11,12,13] (some [0,2,3,5,6,9,10,12]) (evCode C3 46 true (inl C3 (q+4)) (lbody C3.P 46 20)) 18446744073709551616 (Go.Ev.bst (l20 in20).p its) k=some rr;change G20 in20 its k=some rr at h;unfold G20 at h;split at h
 ·rename_i nb no rest nm group low best g b o m;rcases br_some h with⟨h1,h2⟩|⟨_,h2⟩
  ·obtain⟨k1,k2,k3,k4,k5,k6,k7⟩:=AD h1;obtain⟨rest,rfl⟩:=Int.eq_ofNat_of_zero_le k1;obtain⟨low,rfl⟩:=Int.eq_ofNat_of_zero_le k4;subst k6;subst k7;rw[<-h2,A9,A9];exact go20 (nb:=nb) (no:=no) (group:=group) (b:=b) (o:=o) (m:=m) (by omega) k3 (by omega) (fun best g R K=>round20 in7 in20 in26 gs15 R K q nb no nm rest group low best g b o m) k (rest+1) 18446744073709551616 rest 0 (Nat.and_self rest) (by omega) (by omega) (by omega)
  ·cases h2
 ·cases h⟩
theorem loop26:LoopOk C3 (l26 in26):=⟨by kernel_rfl,fun q its k rr h=>by
 show rounds [0,5,6,9,10,12,91,92] (some [0,2,3,5,6,9,10,12]) (evCode C3 46 true (inl C3 (q+4)) (lbody C3.P 46 26)) 18446744073709551616 (Go.Ev.bst (l26 in26).p its) k=some rr;change G26 in26 its k=some rr at h;unfold G26 at h;split at h
 ·rename_i nb no rest nm group best c b o m;rcases br_some h with⟨h1,h2⟩|⟨_,h2⟩
  ·obtain⟨k1,k2,k3,k4⟩:=AD h1;obtain⟨best,rfl⟩:=Int.eq_ofNat_of_zero_le k1;subst k3;rw[<-h2,A9];exact go26 (nb:=nb) (nm:=nm) (rest:=rest) (group:=group) (b:=b) (m:=m) (by omega) k4 (fun j o R K=>round26 in7 in20 in26 gs15 R K q nb no nm rest group best no j b o m) k no 18446744073709551616 0 o (by omega) (by omega)
  ·cases h2
 ·cases h⟩
theorem loop15:LoopOk C3 (l15 gs15):=⟨by kernel_rfl,fun q its k rr h=>by
 show rounds [0,5,6,9,10] (some [2,3,5]) (evCode C3 46 true (inl C3 (q+4)) (lbody C3.P 46 15)) 18446744073709551616 (Go.Ev.bst (l15 gs15).p its) k=some rr;change G15 gs15 its k=some rr at h;unfold G15 at h;split at h
 ·rename_i nb no rest nm b o m;split at h
  ·rename_i o' hgs;unfold gs15 at hgs;split at hgs
   ·rename_i hc;obtain⟨k1,k2,k3,k4,k5⟩:=hc;obtain⟨rest,rfl⟩:=Int.eq_ofNat_of_zero_le k1;rw[<-h];exact go15 (b:=b) (m:=m) k3 ⟨k4,k5⟩ (fun rest group o R K=>round15 in7 in20 in26 gs15 R K q nb no nm rest group b o m) k 64 18446744073709551616 rest 0 o o' (by rw[A9]at hgs;exact hgs) (by omega) (by omega) (by omega)
   ·cases hgs
  ·cases h
 ·cases h⟩
theorem C3_ok:CxW C3 Wt:=mkCx_okW enter mixed (fun p h=>by
 simp only[A8,A7,or_false]at h;rcases h with rfl|rfl
 ·exact den_ck.at _
 ·exact den_most) (fun l h=>by
 simp only[A8,A7,or_false]at h;rcases h with rfl|rfl|rfl|rfl
 ·exact loop7
 ·exact loop20
 ·exact loop26
 ·exact loop15)
theorem tgroups(c7:Nat->Nat->Nat->Int->Bool)(c20:Nat->Int->Int->Int->Int->Bool)(c26:Nat->Int->Int->Bool)(gs:Nat->Nat->Nat->Int->Row->Row->Option Row)(b:Row):evF (C3g c7 c20 c26 gs) 6 46 [.slice ks1 b]=br (ckE (winOf b 0 b.n) !=0) (some [.slice [.int .i64] Row.nil,.v (i64 (ckE (winOf b 0 b.n)))]) (br (0<=(b.n:Int)&&(b.n:Int)<=(b.n:Int)&&(b.n:Int)<=100000000000) (br (c7 b.n (b.n:Int).toNat b.n b.n) (br ((winOf b 0 b.n).n<=20) (match gs b.n (b.n:Int).toNat (mostR (winOf b 0 b.n)).n (rsR b (b.n:Int).toNat 0 (0,Row.zeros (b.n:Int).toNat)).1 (rsR b (b.n:Int).toNat 0 (0,Row.zeros (b.n:Int).toNat)).2 (mostR (winOf b 0 b.n))with|some o'=>some [.slice ks1 (winOf o' 0 (b.n:Int).toNat),.v (i64 0)]|none=>none) none) none) none):=by kernel_rfl
theorem win_self{b:Row}(h:0<b.n):winOf b 0 b.n=b:=by
 cases b with
 |nil=>cases h
 |mk n I B S R=>rfl
theorem ckE_win(b:Row):ckE (winOf b 0 b.n)=ckE b:=by
 by_cases h:0<b.n
 ·rw[win_self h]
 ·have h0:b.n=0:=by omega
  have h1:(winOf b 0 b.n).n=0:=h0;unfold ckE;rw[AM (by omega),AM (by omega)]
theorem rsR_lt(b:Row):∀(m j:Nat)(x:Nat×Row),x.1<2^j->(rsR b m j x).1<2^(j+m)
 |0,j,x,h=>h
 |m+1,j,x,h=>by
  unfold rsR;rw[show j+(m+1)=(j+1)+m by omega];refine rsR_lt b m (j+1) _ ?_;have hp2:2^(j+1)=2*2^j:=by rw[Nat.pow_succ,Nat.mul_comm]
  unfold rsU;dsimp only;split
  ·exact Nat.or_lt_two_pow (by omega) (by omega)
  ·omega
def gpO(b:Row):Option Row:=grS (mostR b) b.n 64 (rsR b b.n 0 (0,Row.zeros b.n)).1 0 (rsR b b.n 0 (0,Row.zeros b.n)).2
def gpC(b:Row):Bool:=ckE b !=0||(gpO b).isSome
def gpR(b:Row):Row:=if ckE b≠0 then .nil else match gpO b with|some o=>winOf o 0 b.n|none=>.nil
def Fgroups:FD
 |[.slice [.int .i64] b]=>some (gpC b,[.slice ks1 (gpR b),.v (i64 (ckE b))])
 |_=>none
theorem den_groups:DenW Tryz.prog Wt 46 Fgroups:=evF_denW C3_ok fun ds rs h=>by
 unfold Fgroups at h;split at h
 ·rename_i b;simp only[A5,A6]at h;obtain⟨hc,rfl⟩:=h;refine(tgroups in7 in20 in26 gs15 b).trans ?_;rw[ckE_win];unfold gpR;by_cases hk:ckE b=0
  ·have hn:1<=b.n∧b.n<=10:=by
    unfold ckE at hk;split at hk
    ·cases hk
    ·omega
   have hp:2^b.n<=2^10:=Nat.pow_le_pow_right (by decide) hn.2;have hlt:=rsR_lt b b.n 0 (0,Row.zeros b.n) (show 0<2^0 by decide);rw[AE]at hlt;unfold gpC at hc;rw[show(ckE b !=0)=false by simpa using hk,Bool.false_or]at hc;rw[show(ckE b !=0)=false by simpa using hk,br_false,win_self (by omega),A9,show(decide (0<=(b.n:Int))&&decide ((b.n:Int)<=(b.n:Int))&&decide ((b.n:Int)<=100000000000))=true by simp only[A2,A3];omega,br_true,
    show in7 b.n b.n b.n b.n=true from A4 ⟨rfl,rfl,by omega⟩,br_true,A4 (show b.n<=20 by omega),br_true,AL (fun h=>h hk)]
   have hm:(mostR b).n=2^b.n:=rfl;have hg:gs15 b.n b.n (mostR b).n (rsR b b.n 0 (0,Row.zeros b.n)).1 (rsR b b.n 0 (0,Row.zeros b.n)).2 (mostR b)=gpO b:=by
    unfold gs15 gpO;rw[hm,AM ⟨by omega,by omega,by omega,rfl,by omega⟩,A9]
   rw[hg];cases ho:gpO b with
   |none=>rw[ho]at hc;cases hc
   |some o=>rw[hk]
  ·rw[show(ckE b !=0)=true by simpa using hk,br_true,AM hk];rfl
 ·cases h
end Go.Proofs.YtkcnkimndhgkgaaGreatDoor.Ld
namespace Go.Proofs.YtkcnkimndhgkgaaGreatDoor.Ld.Lg
open Go.Ev
def ks3:List CK:=[.int .i64,.int .i64,.int .i64]
def pay(n:Int)(r:Row):List D:=[.v (i64 n),.slice ks3 r]
def isB(n p:Int):Bool:=decide (p>=0)&&decide (p<n)
def bad(n:Int)(r:Row)(j:Nat):Bool:= !isB n (r.I j 0)|| !isB n (r.I j 1)||r.I j 0==r.I j 1||decide (r.I j 2<1)||decide (r.I j 2>1000000000)
def partiesB(n:Int):Bool:=decide (n>=1)&&decide (n<=10)
def chk(n:Int)(r:Row):Int:=bif partiesB n then(bif (r.n:Int)>200 then 4 else bif anyF (bad n r) r.n 0 then 8 else 0)else 2
def S7(n:Int)(len:Nat)(l j:Int)(r:Row):St:={τ:=[i64 n]++us 15++[S_ 0 0 len,i64 l,i64 j]++us 29,saved:=[[]],mem:=[some (.row ks3 false r)]}
def S7r:St:={τ:=us 4++[i64 8]++us 43,saved:=[[]],mem:=[]}
def S7x:St:={τ:=us 48,saved:=[[]],mem:=[]}
def G7:List It->(X->St->OD)->OD
 |[.i n,.n len,.i l,.r r],k=>br (decide (l=(len:Int))&&decide (len<=1000)) (br (anyF (bad n r) len 0) (k .ret S7r) (k (.exit 0) S7x)) none
 |_,_=>none
def l7:LoopC where
 f:=47
 id:=7
 lv:=[0,16,17,18]
 lx:=[4]
 p:={τ:=[.v (.int .i64)]++pu 15++[.v (.sl 0),.v (.int .i64),.v (.c (i64 0))]++pu 29,saved:=[[]],mem:=[.row ks3 false]}
 G:=G7
noncomputable def C7:Cx:=mkCx Tryz.prog fns [] [l7]
theorem round7(d:Nat)(R:St->OD)(K:X->St->OD)(n:Int)(len:Nat)(l:Int)(j:Nat)(r:Row):evCode C7 47 true (inl C7 (d+4)) (lbody C7.P 47 7) (S7 n len l j r) (rnd [0,16,17,18] (some [4]) R K)=br ((j:Int)<l) (br (0<=(j:Int)&&(j:Int)<len) (br (r.I (0+j) 0>=0) (br (!decide (r.I (0+j) 0<n)) (K .ret S7r) (br (r.I (0+j) 1>=0) (br (!decide (r.I (0+j) 1<n)) (K .ret S7r) (br (r.I (0+j) 0==r.I (0+j) 1) (K .ret S7r) (br (r.I (0+j) 2>=1) (br (!decide (r.I (0+j) 2<=1000000000)) (K .ret S7r) (R (S7 n len l (IntKind.i64.wrap (j+1)) r))) (K .ret S7r)))) (K .ret S7r))) (K .ret S7r)) none) (K (.exit 0) S7x):=by kernel_rfl
theorem bad_tree{A:Type}(n:Int)(r:Row)(j:Nat)(x y:Option A):
  (br (decide (r.I (0+j) 0>=0)) (br (!decide (r.I (0+j) 0<n)) x
    (br (decide (r.I (0+j) 1>=0)) (br (!decide (r.I (0+j) 1<n)) x
     (br (r.I (0+j) 0==r.I (0+j) 1) x
      (br (decide (r.I (0+j) 2>=1)) (br (!decide (r.I (0+j) 2<=1000000000)) x y) x))) x)) x)=br (bad n r j) x y:=by
 rw[AE];have e1:decide (r.I j 2<1)= !decide (r.I j 2>=1):=by rw[Bool.eq_iff_iff];simp only[Bool.not_eq_true',A3,decide_eq_false_iff_not];omega
 have e2:decide (r.I j 2>1000000000)= !decide (r.I j 2<=1000000000):=by rw[Bool.eq_iff_iff];simp only[Bool.not_eq_true',A3,decide_eq_false_iff_not];omega
 unfold bad isB;rw[e1,e2];cases decide (r.I j 0>=0)<;>cases decide (r.I j 0<n)<;>cases decide (r.I j 1>=0)<;>cases decide (r.I j 1<n)<;>cases(r.I j 0==r.I j 1)<;>cases decide (r.I j 2>=1)<;>cases decide (r.I j 2<=1000000000)<;>rfl
theorem loop7:LoopOk C7 l7:=⟨by kernel_rfl,fun d its k rr h=>by
 show rounds [0,16,17,18] (some [4]) (evCode C7 47 true (inl C7 (d+4)) (lbody C7.P 47 7)) 18446744073709551616 (Go.Ev.bst l7.p its) k=some rr;change G7 its k=some rr at h;unfold G7 at h;split at h
 ·rename_i n len l r;rcases br_some h with⟨h1,h2⟩|⟨_,h2⟩
  ·simp only[A2,A3]at h1;obtain⟨rfl,h1⟩:=h1;rw[<-h2];exact rounds_scan (S:=fun j=>S7 n len len j r) (len:=len) (bad:=bad n r) (Kb:=fun K=>K .ret S7r) (Ke:=fun K=>K (.exit 0) S7x)
    (fun j hj R K=>by
     rw[round7,wrap64 (by omega) (by omega),show decide ((j:Int)<(len:Int))=true by simpa using hj,show(decide (0<=(j:Int)))=true by simp];simp only[Bool.and_true,br_true];exact bad_tree n r j _ _)
    (fun R K=>by
     rw[round7,show decide ((len:Int)<(len:Int))=false by simp];rfl) k len 0 (by omega) _ (by omega)
  ·cases h2
 ·cases h⟩
theorem C7_ok:CxOk C7:=mkCx_ok enter mixed (fun p h=>by cases h) (fun l h=>by
 simp only[List.mem_singleton]at h;subst h;exact loop7)
def F7:FD
 |[.v (.int .i64 n),.slice [.int .i64,.int .i64,.int .i64] r]=>some (true,[.v (i64 (chk n r))])
 |_=>none
theorem t7(n:Int)(r:Row):evF C7 6 47 (pay n r)=br (n<1) (some [.v (i64 2)]) (br (n>10) (some [.v (i64 2)]) (br ((r.n:Int)>200) (some [.v (i64 4)]) (br ((r.n:Int)=(r.n:Int)&&r.n<=1000) (br (anyF (bad n r) r.n 0) (some [.v (i64 8)]) (some [.v (i64 0)])) none))):=by kernel_rfl
theorem chk_tree(n:Int)(r:Row){A:Type}(g:Int->Option A):(br (decide (n<1)) (g 2) (br (decide (n>10)) (g 2) (br (decide ((r.n:Int)>200)) (g 4)
   (br (decide ((r.n:Int)=(r.n:Int))&&decide (r.n<=1000)) (br (anyF (bad n r) r.n 0) (g 8) (g 0)) none))))=g (chk n r):=by
 have e1:decide (n<1)= !decide (n>=1):=by rw[Bool.eq_iff_iff];simp only[Bool.not_eq_true',A3,decide_eq_false_iff_not];omega
 have e2:decide (n>10)= !decide (n<=10):=by rw[Bool.eq_iff_iff];simp only[Bool.not_eq_true',A3,decide_eq_false_iff_not];omega
 have e3:decide ((r.n:Int)>200)=false->(decide ((r.n:Int)=(r.n:Int))&&decide (r.n<=1000))=true:=by intro h;simp at h⊢;omega
 unfold chk partiesB;rw[e1,e2];cases h:decide ((r.n:Int)>200)
 ·rw[e3 h];cases decide (n>=1)<;>cases decide (n<=10)<;>cases anyF (bad n r) r.n 0<;>rfl
 ·cases decide (n>=1)<;>cases decide (n<=10)<;>rfl
theorem den7:Den Tryz.prog 47 F7:=evF_den C7_ok fun ds rs h=>by
 unfold F7 at h;split at h
 ·rename_i n r;cases h;exact(t7 n r).trans (chk_tree n r fun e=>some [D.v (i64 e)])
 ·cases h
end Go.Proofs.YtkcnkimndhgkgaaGreatDoor.Ld.Lg
namespace Go.Proofs
open Go.Shelf
def Tryz.laysM171_ren:Go.Shelf.Ren:=⟨fun|171=>112|243=>151|246=>181|283=>205|284=>206|285=>207|286=>208|129=>218|317=>243|318=>244|319=>245|320=>142|337=>174|338=>175|n=>n,fun|3=>3|9=>9|2=>2|4=>4|171=>275|0=>0|53=>225|37=>98|5=>5|173=>277|212=>306|51=>254|20=>20|213=>307|46=>192|232=>272|233=>273|n=>n,fun|17=>3|18=>1|19=>2|n=>n⟩
theorem Tryz.laysM171:Go.Proofs.LaysM.n171 Tryz.prog Tryz.laysM171_ren:={
 mixed:=by kernel_rfl
 f129:=Tryz.func218.trans (congrArg some (by kernel_rfl))
 f171:=Tryz.func112.trans (congrArg some (by kernel_rfl))
 f243:=Tryz.func151.trans (congrArg some (by kernel_rfl))
 f246:=Tryz.func181.trans (congrArg some (by kernel_rfl))
 f283:=Tryz.func205.trans (congrArg some (by kernel_rfl))
 f284:=Tryz.func206.trans (congrArg some (by kernel_rfl))
 f285:=Tryz.func207.trans (congrArg some (by kernel_rfl))
 f286:=Tryz.func208.trans (congrArg some (by kernel_rfl))
 f317:=Tryz.func243.trans (congrArg some (by kernel_rfl))
 f318:=Tryz.func244.trans (congrArg some (by kernel_rfl))
 f319:=Tryz.func245.trans (congrArg some (by kernel_rfl))
 f320:=Tryz.func142.trans (congrArg some (by kernel_rfl))
 f337:=Tryz.func174.trans (congrArg some (by kernel_rfl))
 f338:=Tryz.func175.trans (congrArg some (by kernel_rfl))
 t0:=Tryz.underlying0
 a0:=Tryz.isAgg0
 z0:=Tryz.sizeOf0
 v0:=Tryz.zeroValue0
 t2:=Tryz.underlying2
 a2:=Tryz.isAgg2
 z2:=Tryz.sizeOf2
 v2:=Tryz.zeroValue2
 t3:=Tryz.underlying3
 a3:=Tryz.isAgg3
 z3:=Tryz.sizeOf3
 v3:=Tryz.zeroValue3
 t4:=Tryz.underlying4
 a4:=Tryz.isAgg4
 z4:=Tryz.sizeOf4
 v4:=Tryz.zeroValue4
 t5:=Tryz.underlying5
 a5:=Tryz.isAgg5
 z5:=Tryz.sizeOf5
 v5:=Tryz.zeroValue5
 t9:=Tryz.underlying9
 a9:=Tryz.isAgg9
 z9:=Tryz.sizeOf9
 v9:=Tryz.zeroValue9
 t20:=Tryz.underlying20
 a20:=Tryz.isAgg20
 z20:=Tryz.sizeOf20
 v20:=Tryz.zeroValue20
 t37:=Tryz.underlying98
 a37:=Tryz.isAgg98
 z37:=Tryz.sizeOf98
 v37:=Tryz.zeroValue98
 t46:=Tryz.underlying192
 a46:=Tryz.isAgg192
 z46:=Tryz.sizeOf192
 v46:=Tryz.zeroValue192
 t51:=Tryz.underlying254
 a51:=Tryz.isAgg254
 z51:=Tryz.sizeOf254
 v51:=Tryz.zeroValue254
 t53:=Tryz.underlying225
 a53:=Tryz.isAgg225
 z53:=Tryz.sizeOf225
 v53:=Tryz.zeroValue225
 t171:=Tryz.underlying275
 a171:=Tryz.isAgg275
 z171:=Tryz.sizeOf275
 v171:=Tryz.zeroValue275
 t173:=Tryz.underlying277
 a173:=Tryz.isAgg277
 z173:=Tryz.sizeOf277
 v173:=Tryz.zeroValue277
 t212:=Tryz.underlying306
 a212:=Tryz.isAgg306
 z212:=Tryz.sizeOf306
 v212:=Tryz.zeroValue306
 t213:=Tryz.underlying307
 a213:=Tryz.isAgg307
 z213:=Tryz.sizeOf307
 t232:=Tryz.underlying272
 a232:=Tryz.isAgg272
 z232:=Tryz.sizeOf272
 v232:=Tryz.zeroValue272
 t233:=Tryz.underlying273
 a233:=Tryz.isAgg273
 z233:=Tryz.sizeOf273
 v233:=Tryz.zeroValue273
 g17:=by kernel_rfl
 g18:=by kernel_rfl
 g19:=by kernel_rfl
 i0:=by kernel_rfl
 i2:=by kernel_rfl
 i3:=by kernel_rfl
 i4:=by kernel_rfl
 i5:=by kernel_rfl
 i9:=by kernel_rfl
 i20:=by kernel_rfl
 i37:=by kernel_rfl
 i46:=by kernel_rfl
 i51:=by kernel_rfl
 i53:=by kernel_rfl
 i171:=by kernel_rfl
 i173:=by kernel_rfl
 i212:=by kernel_rfl
 i232:=by kernel_rfl
 i233:=by kernel_rfl
 m17:=by kernel_rfl
 m18:=by kernel_rfl
 m19:=by kernel_rfl}
open Go.RowKit Go.Sort Go.Lib in
theorem Tryz.strconv_Itoa(n:Int)(h0: -9223372036854775808<=n)(h1:n<=9223372036854775807)(w:World)(htab:Lib.TabIs Tryz.prog w "internal/strconv.uint64pow10" .u64 Lib.pow10Tab):
  Calls Tryz.prog 112 #[.int .i64 n] w fun e w'=>e=.returned (.string ⟨(Lib.itoa n).toArray⟩)∧∃k os,w'=grow (w.drewN k) os:=Any.strconv_Itoa Tryz.laysM171 n h0 h1 w htab
def Tryz.laysM173_ren:Go.Shelf.Ren:=⟨fun|173=>180|246=>181|283=>205|284=>206|285=>207|286=>208|129=>218|317=>243|318=>244|319=>245|320=>142|337=>174|338=>175|n=>n,fun|2=>2|3=>3|9=>9|4=>4|171=>275|0=>0|53=>225|37=>98|5=>5|173=>277|212=>306|51=>254|20=>20|213=>307|46=>192|232=>272|233=>273|n=>n,fun|17=>3|18=>1|19=>2|n=>n⟩
theorem Tryz.laysM173:Go.Proofs.LaysM.n173 Tryz.prog Tryz.laysM173_ren:={
 mixed:=by kernel_rfl
 f129:=Tryz.func218.trans (congrArg some (by kernel_rfl))
 f173:=Tryz.func180.trans (congrArg some (by kernel_rfl))
 f246:=Tryz.func181.trans (congrArg some (by kernel_rfl))
 f283:=Tryz.func205.trans (congrArg some (by kernel_rfl))
 f284:=Tryz.func206.trans (congrArg some (by kernel_rfl))
 f285:=Tryz.func207.trans (congrArg some (by kernel_rfl))
 f286:=Tryz.func208.trans (congrArg some (by kernel_rfl))
 f317:=Tryz.func243.trans (congrArg some (by kernel_rfl))
 f318:=Tryz.func244.trans (congrArg some (by kernel_rfl))
 f319:=Tryz.func245.trans (congrArg some (by kernel_rfl))
 f320:=Tryz.func142.trans (congrArg some (by kernel_rfl))
 f337:=Tryz.func174.trans (congrArg some (by kernel_rfl))
 f338:=Tryz.func175.trans (congrArg some (by kernel_rfl))
 t0:=Tryz.underlying0
 a0:=Tryz.isAgg0
 z0:=Tryz.sizeOf0
 v0:=Tryz.zeroValue0
 t2:=Tryz.underlying2
 a2:=Tryz.isAgg2
 z2:=Tryz.sizeOf2
 v2:=Tryz.zeroValue2
 t3:=Tryz.underlying3
 a3:=Tryz.isAgg3
 z3:=Tryz.sizeOf3
 v3:=Tryz.zeroValue3
 t4:=Tryz.underlying4
 a4:=Tryz.isAgg4
 z4:=Tryz.sizeOf4
 v4:=Tryz.zeroValue4
 t5:=Tryz.underlying5
 a5:=Tryz.isAgg5
 z5:=Tryz.sizeOf5
 v5:=Tryz.zeroValue5
 t9:=Tryz.underlying9
 a9:=Tryz.isAgg9
 z9:=Tryz.sizeOf9
 v9:=Tryz.zeroValue9
 t20:=Tryz.underlying20
 a20:=Tryz.isAgg20
 z20:=Tryz.sizeOf20
 v20:=Tryz.zeroValue20
 t37:=Tryz.underlying98
 a37:=Tryz.isAgg98
 z37:=Tryz.sizeOf98
 v37:=Tryz.zeroValue98
 t46:=Tryz.underlying192
 a46:=Tryz.isAgg192
 z46:=Tryz.sizeOf192
 v46:=Tryz.zeroValue192
 t51:=Tryz.underlying254
 a51:=Tryz.isAgg254
 z51:=Tryz.sizeOf254
 v51:=Tryz.zeroValue254
 t53:=Tryz.underlying225
 a53:=Tryz.isAgg225
 z53:=Tryz.sizeOf225
 v53:=Tryz.zeroValue225
 t171:=Tryz.underlying275
 a171:=Tryz.isAgg275
 z171:=Tryz.sizeOf275
 v171:=Tryz.zeroValue275
 t173:=Tryz.underlying277
 a173:=Tryz.isAgg277
 z173:=Tryz.sizeOf277
 v173:=Tryz.zeroValue277
 t212:=Tryz.underlying306
 a212:=Tryz.isAgg306
 z212:=Tryz.sizeOf306
 v212:=Tryz.zeroValue306
 t213:=Tryz.underlying307
 a213:=Tryz.isAgg307
 z213:=Tryz.sizeOf307
 t232:=Tryz.underlying272
 a232:=Tryz.isAgg272
 z232:=Tryz.sizeOf272
 v232:=Tryz.zeroValue272
 t233:=Tryz.underlying273
 a233:=Tryz.isAgg273
 z233:=Tryz.sizeOf273
 v233:=Tryz.zeroValue273
 g17:=by kernel_rfl
 g18:=by kernel_rfl
 g19:=by kernel_rfl
 i0:=by kernel_rfl
 i2:=by kernel_rfl
 i3:=by kernel_rfl
 i4:=by kernel_rfl
 i5:=by kernel_rfl
 i9:=by kernel_rfl
 i20:=by kernel_rfl
 i37:=by kernel_rfl
 i46:=by kernel_rfl
 i51:=by kernel_rfl
 i53:=by kernel_rfl
 i171:=by kernel_rfl
 i173:=by kernel_rfl
 i212:=by kernel_rfl
 i232:=by kernel_rfl
 i233:=by kernel_rfl
 m17:=by kernel_rfl
 m18:=by kernel_rfl
 m19:=by kernel_rfl}
open Go.RowKit Go.Sort Go.Lib in
theorem Tryz.strconv_FormatInt_10(n:Int)(h0: -9223372036854775808<=n)(h1:n<=9223372036854775807)(w:World)(htab:Lib.TabIs Tryz.prog w "internal/strconv.uint64pow10" .u64 Lib.pow10Tab):
  Calls Tryz.prog 180 #[.int .i64 n,.int .i64 10] w fun e w'=>e=.returned (.string ⟨(Lib.itoa n).toArray⟩)∧∃k os,w'=grow (w.drewN k) os:=Any.strconv_FormatInt_10 Tryz.laysM173 n h0 h1 w htab
def Tryz.laysC172_ren:Go.Shelf.Ren:=⟨fun|172=>162|244=>194|245=>195|247=>225|279=>226|280=>227|281=>228|282=>229|287=>252|316=>253|171=>112|205=>254|321=>261|322=>262|243=>151|246=>181|283=>205|284=>206|285=>207|286=>208|129=>218|317=>243|318=>244|319=>245|320=>142|337=>174|338=>175|n=>n,fun|9=>9|3=>3|75=>119|76=>120|4=>4|5=>5|167=>294|37=>98|0=>0|85=>292|2=>2|168=>295|53=>225|175=>314|46=>192|210=>318|127=>203|145=>332|143=>330|21=>21|171=>275|173=>277|212=>306|51=>254|20=>20|213=>307|232=>272|233=>273|80=>129|n=>n,fun|15=>4|16=>5|17=>3|18=>1|19=>2|n=>n⟩
theorem Tryz.laysC172:Go.Proofs.LaysC.n172 Tryz.prog Tryz.laysC172_ren:={
 mixed:=by kernel_rfl
 f129:=Tryz.func218.trans (congrArg some (by kernel_rfl))
 f171:=Tryz.func112.trans (congrArg some (by kernel_rfl))
 f172:=Tryz.func162.trans (congrArg some (by kernel_rfl))
 f205:=Tryz.func254.trans (congrArg some (by kernel_rfl))
 f243:=Tryz.func151.trans (congrArg some (by kernel_rfl))
 f244:=Tryz.func194.trans (congrArg some (by kernel_rfl))
 f245:=Tryz.func195.trans (congrArg some (by kernel_rfl))
 f246:=Tryz.func181.trans (congrArg some (by kernel_rfl))
 f247:=Tryz.func225.trans (congrArg some (by kernel_rfl))
 f279:=Tryz.func226.trans (congrArg some (by kernel_rfl))
 f280:=Tryz.func227.trans (congrArg some (by kernel_rfl))
 f281:=Tryz.func228.trans (congrArg some (by kernel_rfl))
 f282:=Tryz.func229.trans (congrArg some (by kernel_rfl))
 f283:=Tryz.func205.trans (congrArg some (by kernel_rfl))
 f284:=Tryz.func206.trans (congrArg some (by kernel_rfl))
 f285:=Tryz.func207.trans (congrArg some (by kernel_rfl))
 f286:=Tryz.func208.trans (congrArg some (by kernel_rfl))
 f287:=Tryz.func252.trans (congrArg some (by kernel_rfl))
 f316:=Tryz.func253.trans (congrArg some (by kernel_rfl))
 f317:=Tryz.func243.trans (congrArg some (by kernel_rfl))
 f318:=Tryz.func244.trans (congrArg some (by kernel_rfl))
 f319:=Tryz.func245.trans (congrArg some (by kernel_rfl))
 f320:=Tryz.func142.trans (congrArg some (by kernel_rfl))
 f321:=Tryz.func261.trans (congrArg some (by kernel_rfl))
 f322:=Tryz.func262.trans (congrArg some (by kernel_rfl))
 f337:=Tryz.func174.trans (congrArg some (by kernel_rfl))
 f338:=Tryz.func175.trans (congrArg some (by kernel_rfl))
 t0:=Tryz.underlying0
 a0:=Tryz.isAgg0
 z0:=Tryz.sizeOf0
 v0:=Tryz.zeroValue0
 t2:=Tryz.underlying2
 a2:=Tryz.isAgg2
 z2:=Tryz.sizeOf2
 v2:=Tryz.zeroValue2
 t3:=Tryz.underlying3
 a3:=Tryz.isAgg3
 z3:=Tryz.sizeOf3
 v3:=Tryz.zeroValue3
 t4:=Tryz.underlying4
 a4:=Tryz.isAgg4
 z4:=Tryz.sizeOf4
 v4:=Tryz.zeroValue4
 t5:=Tryz.underlying5
 a5:=Tryz.isAgg5
 z5:=Tryz.sizeOf5
 v5:=Tryz.zeroValue5
 t9:=Tryz.underlying9
 a9:=Tryz.isAgg9
 z9:=Tryz.sizeOf9
 v9:=Tryz.zeroValue9
 t20:=Tryz.underlying20
 a20:=Tryz.isAgg20
 z20:=Tryz.sizeOf20
 v20:=Tryz.zeroValue20
 t21:=Tryz.underlying21
 a21:=Tryz.isAgg21
 z21:=Tryz.sizeOf21
 v21:=Tryz.zeroValue21
 t37:=Tryz.underlying98
 a37:=Tryz.isAgg98
 z37:=Tryz.sizeOf98
 v37:=Tryz.zeroValue98
 t46:=Tryz.underlying192
 a46:=Tryz.isAgg192
 z46:=Tryz.sizeOf192
 v46:=Tryz.zeroValue192
 t51:=Tryz.underlying254
 a51:=Tryz.isAgg254
 z51:=Tryz.sizeOf254
 v51:=Tryz.zeroValue254
 t53:=Tryz.underlying225
 a53:=Tryz.isAgg225
 z53:=Tryz.sizeOf225
 v53:=Tryz.zeroValue225
 t75:=Tryz.underlying119
 a75:=Tryz.isAgg119
 z75:=Tryz.sizeOf119
 v75:=Tryz.zeroValue119
 t76:=Tryz.underlying120
 a76:=Tryz.isAgg120
 z76:=Tryz.sizeOf120
 v76:=Tryz.zeroValue120
 t85:=Tryz.underlying292
 a85:=Tryz.isAgg292
 z85:=Tryz.sizeOf292
 v85:=Tryz.zeroValue292
 t127:=Tryz.underlying203
 a127:=Tryz.isAgg203
 z127:=Tryz.sizeOf203
 v127:=Tryz.zeroValue203
 t143:=Tryz.underlying330
 a143:=Tryz.isAgg330
 z143:=Tryz.sizeOf330
 v143:=Tryz.zeroValue330
 t145:=Tryz.underlying332
 a145:=Tryz.isAgg332
 z145:=Tryz.sizeOf332
 v145:=Tryz.zeroValue332
 t167:=Tryz.underlying294
 a167:=Tryz.isAgg294
 z167:=Tryz.sizeOf294
 v167:=Tryz.zeroValue294
 t168:=Tryz.underlying295
 a168:=Tryz.isAgg295
 z168:=Tryz.sizeOf295
 v168:=Tryz.zeroValue295
 t171:=Tryz.underlying275
 a171:=Tryz.isAgg275
 z171:=Tryz.sizeOf275
 v171:=Tryz.zeroValue275
 t173:=Tryz.underlying277
 a173:=Tryz.isAgg277
 z173:=Tryz.sizeOf277
 v173:=Tryz.zeroValue277
 t175:=Tryz.underlying314
 a175:=Tryz.isAgg314
 z175:=Tryz.sizeOf314
 v175:=Tryz.zeroValue314
 t210:=Tryz.underlying318
 a210:=Tryz.isAgg318
 z210:=Tryz.sizeOf318
 v210:=Tryz.zeroValue318
 t212:=Tryz.underlying306
 a212:=Tryz.isAgg306
 z212:=Tryz.sizeOf306
 v212:=Tryz.zeroValue306
 t213:=Tryz.underlying307
 a213:=Tryz.isAgg307
 z213:=Tryz.sizeOf307
 t232:=Tryz.underlying272
 a232:=Tryz.isAgg272
 z232:=Tryz.sizeOf272
 v232:=Tryz.zeroValue272
 t233:=Tryz.underlying273
 a233:=Tryz.isAgg273
 z233:=Tryz.sizeOf273
 v233:=Tryz.zeroValue273
 g15:=by kernel_rfl
 g16:=by kernel_rfl
 g17:=by kernel_rfl
 g18:=by kernel_rfl
 g19:=by kernel_rfl
 t80:=Tryz.underlying129
 a80:=Tryz.isAgg129
 z80:=Tryz.sizeOf129
 v80:=Tryz.zeroValue129
 i0:=by kernel_rfl
 i2:=by kernel_rfl
 i3:=by kernel_rfl
 i4:=by kernel_rfl
 i5:=by kernel_rfl
 i9:=by kernel_rfl
 i20:=by kernel_rfl
 i21:=by kernel_rfl
 i37:=by kernel_rfl
 i46:=by kernel_rfl
 i51:=by kernel_rfl
 i53:=by kernel_rfl
 i75:=by kernel_rfl
 i76:=by kernel_rfl
 i80:=by kernel_rfl
 i85:=by kernel_rfl
 i127:=by kernel_rfl
 i143:=by kernel_rfl
 i145:=by kernel_rfl
 i167:=by kernel_rfl
 i168:=by kernel_rfl
 i171:=by kernel_rfl
 i173:=by kernel_rfl
 i175:=by kernel_rfl
 i210:=by kernel_rfl
 i212:=by kernel_rfl
 i232:=by kernel_rfl
 i233:=by kernel_rfl
 m15:=by kernel_rfl
 m16:=by kernel_rfl
 m17:=by kernel_rfl
 m18:=by kernel_rfl
 m19:=by kernel_rfl
 c0:=by kernel_rfl
 c2:=by kernel_rfl
 c3:=by kernel_rfl
 c4:=by kernel_rfl
 c5:=by kernel_rfl
 c9:=by kernel_rfl
 c20:=by kernel_rfl
 c21:=by kernel_rfl
 c37:=by kernel_rfl
 c46:=by kernel_rfl
 c51:=by kernel_rfl
 c53:=by kernel_rfl
 c75:=by kernel_rfl
 c76:=by kernel_rfl
 c80:=by kernel_rfl
 c85:=by kernel_rfl
 c127:=by kernel_rfl
 c143:=by kernel_rfl
 c145:=by kernel_rfl
 c167:=by kernel_rfl
 c168:=by kernel_rfl
 c171:=by kernel_rfl
 c173:=by kernel_rfl
 c175:=by kernel_rfl
 c210:=by kernel_rfl
 c212:=by kernel_rfl
 c213:=by kernel_rfl
 c232:=by kernel_rfl
 c233:=by kernel_rfl}
open Go.RowKit in
theorem Tryz.strconv_Atoi_ok(s:ByteArray)(hmax:s.size<=9223372036854775806)(v:Int)(h:Lib.atoiAll s.data.toList=.ok v)(w:World):
  Calls Tryz.prog 162 #[.string s] w fun e w'=>e=.returned (.tuple #[.int .i64 v,.nilIface])∧(w'=w∨∃t,w'=Lib.bytesWorld w 5 t):=Any.strconv_Atoi_ok Tryz.laysC172 s hmax v h w
open Go.RowKit in
theorem Tryz.strconv_Atoi_syntax(s:ByteArray)(hlim:s.size<=281474976710656)(h:Lib.atoiAll s.data.toList=Go.Lib.NumEnd.syntax)(ev:Value)(w:World)(hv:w.cell? ⟨4,0,none⟩=some ev)(hev:ev=.nilIface∨∃te pe,ev=.iface te pe):
  Calls Tryz.prog 162 #[.string s] w fun e w'=>∃N,e=.returned (.tuple #[.int .i64 0,.iface 295 (.pointer (some ⟨N,0,none⟩))])∧w.heap.size<=N∧w'.heap[N]? =some (.cells #[.string ⟨#[65,116,111,105]⟩,.string s,ev] 318 (0,0))∧Below w.heap.size w w':=Any.strconv_Atoi_syntax Tryz.laysC172 s hlim h ev w hv hev
open Go.RowKit in
theorem Tryz.strconv_Atoi_range(s:ByteArray)(hlim:s.size<=281474976710656)(h:Lib.atoiAll s.data.toList=.range)(ev:Value)(w:World)(hv:w.cell? ⟨5,0,none⟩=some ev)(hev:ev=.nilIface∨∃te pe,ev=.iface te pe):
  Calls Tryz.prog 162 #[.string s] w fun e w'=>∃N,e=.returned (.tuple #[.int .i64 (Lib.atoiSat s.data.toList),.iface 295 (.pointer (some ⟨N,0,none⟩))])∧w.heap.size<=N∧w'.heap[N]? =some (.cells #[.string ⟨#[65,116,111,105]⟩,.string s,ev] 318 (0,0))∧Below w.heap.size w w':=Any.strconv_Atoi_range Tryz.laysC172 s hlim h ev w hv hev
def Tryz.laysC174_ren:Go.Shelf.Ren:=⟨fun|174=>224|247=>225|245=>195|287=>252|279=>226|280=>227|281=>228|282=>229|321=>261|322=>262|316=>253|171=>112|205=>254|243=>151|246=>181|283=>205|284=>206|285=>207|286=>208|129=>218|317=>243|318=>244|319=>245|320=>142|337=>174|338=>175|n=>n,fun|9=>9|3=>3|2=>2|75=>119|85=>292|4=>4|167=>294|5=>5|53=>225|175=>314|46=>192|168=>295|37=>98|0=>0|210=>318|21=>21|127=>203|145=>332|143=>330|171=>275|173=>277|212=>306|51=>254|20=>20|213=>307|232=>272|233=>273|80=>129|n=>n,fun|15=>4|16=>5|17=>3|18=>1|19=>2|n=>n⟩
theorem Tryz.laysC174:Go.Proofs.LaysC.n174 Tryz.prog Tryz.laysC174_ren:={
 mixed:=by kernel_rfl
 f129:=Tryz.func218.trans (congrArg some (by kernel_rfl))
 f171:=Tryz.func112.trans (congrArg some (by kernel_rfl))
 f174:=Tryz.func224.trans (congrArg some (by kernel_rfl))
 f205:=Tryz.func254.trans (congrArg some (by kernel_rfl))
 f243:=Tryz.func151.trans (congrArg some (by kernel_rfl))
 f245:=Tryz.func195.trans (congrArg some (by kernel_rfl))
 f246:=Tryz.func181.trans (congrArg some (by kernel_rfl))
 f247:=Tryz.func225.trans (congrArg some (by kernel_rfl))
 f279:=Tryz.func226.trans (congrArg some (by kernel_rfl))
 f280:=Tryz.func227.trans (congrArg some (by kernel_rfl))
 f281:=Tryz.func228.trans (congrArg some (by kernel_rfl))
 f282:=Tryz.func229.trans (congrArg some (by kernel_rfl))
 f283:=Tryz.func205.trans (congrArg some (by kernel_rfl))
 f284:=Tryz.func206.trans (congrArg some (by kernel_rfl))
 f285:=Tryz.func207.trans (congrArg some (by kernel_rfl))
 f286:=Tryz.func208.trans (congrArg some (by kernel_rfl))
 f287:=Tryz.func252.trans (congrArg some (by kernel_rfl))
 f316:=Tryz.func253.trans (congrArg some (by kernel_rfl))
 f317:=Tryz.func243.trans (congrArg some (by kernel_rfl))
 f318:=Tryz.func244.trans (congrArg some (by kernel_rfl))
 f319:=Tryz.func245.trans (congrArg some (by kernel_rfl))
 f320:=Tryz.func142.trans (congrArg some (by kernel_rfl))
 f321:=Tryz.func261.trans (congrArg some (by kernel_rfl))
 f322:=Tryz.func262.trans (congrArg some (by kernel_rfl))
 f337:=Tryz.func174.trans (congrArg some (by kernel_rfl))
 f338:=Tryz.func175.trans (congrArg some (by kernel_rfl))
 t0:=Tryz.underlying0
 a0:=Tryz.isAgg0
 z0:=Tryz.sizeOf0
 v0:=Tryz.zeroValue0
 t2:=Tryz.underlying2
 a2:=Tryz.isAgg2
 z2:=Tryz.sizeOf2
 v2:=Tryz.zeroValue2
 t3:=Tryz.underlying3
 a3:=Tryz.isAgg3
 z3:=Tryz.sizeOf3
 v3:=Tryz.zeroValue3
 t4:=Tryz.underlying4
 a4:=Tryz.isAgg4
 z4:=Tryz.sizeOf4
 v4:=Tryz.zeroValue4
 t5:=Tryz.underlying5
 a5:=Tryz.isAgg5
 z5:=Tryz.sizeOf5
 v5:=Tryz.zeroValue5
 t9:=Tryz.underlying9
 a9:=Tryz.isAgg9
 z9:=Tryz.sizeOf9
 v9:=Tryz.zeroValue9
 t20:=Tryz.underlying20
 a20:=Tryz.isAgg20
 z20:=Tryz.sizeOf20
 v20:=Tryz.zeroValue20
 t21:=Tryz.underlying21
 a21:=Tryz.isAgg21
 z21:=Tryz.sizeOf21
 v21:=Tryz.zeroValue21
 t37:=Tryz.underlying98
 a37:=Tryz.isAgg98
 z37:=Tryz.sizeOf98
 v37:=Tryz.zeroValue98
 t46:=Tryz.underlying192
 a46:=Tryz.isAgg192
 z46:=Tryz.sizeOf192
 v46:=Tryz.zeroValue192
 t51:=Tryz.underlying254
 a51:=Tryz.isAgg254
 z51:=Tryz.sizeOf254
 v51:=Tryz.zeroValue254
 t53:=Tryz.underlying225
 a53:=Tryz.isAgg225
 z53:=Tryz.sizeOf225
 v53:=Tryz.zeroValue225
 t75:=Tryz.underlying119
 a75:=Tryz.isAgg119
 z75:=Tryz.sizeOf119
 v75:=Tryz.zeroValue119
 t85:=Tryz.underlying292
 a85:=Tryz.isAgg292
 z85:=Tryz.sizeOf292
 v85:=Tryz.zeroValue292
 t127:=Tryz.underlying203
 a127:=Tryz.isAgg203
 z127:=Tryz.sizeOf203
 v127:=Tryz.zeroValue203
 t143:=Tryz.underlying330
 a143:=Tryz.isAgg330
 z143:=Tryz.sizeOf330
 v143:=Tryz.zeroValue330
 t145:=Tryz.underlying332
 a145:=Tryz.isAgg332
 z145:=Tryz.sizeOf332
 v145:=Tryz.zeroValue332
 t167:=Tryz.underlying294
 a167:=Tryz.isAgg294
 z167:=Tryz.sizeOf294
 v167:=Tryz.zeroValue294
 t168:=Tryz.underlying295
 a168:=Tryz.isAgg295
 z168:=Tryz.sizeOf295
 v168:=Tryz.zeroValue295
 t171:=Tryz.underlying275
 a171:=Tryz.isAgg275
 z171:=Tryz.sizeOf275
 v171:=Tryz.zeroValue275
 t173:=Tryz.underlying277
 a173:=Tryz.isAgg277
 z173:=Tryz.sizeOf277
 v173:=Tryz.zeroValue277
 t175:=Tryz.underlying314
 a175:=Tryz.isAgg314
 z175:=Tryz.sizeOf314
 v175:=Tryz.zeroValue314
 t210:=Tryz.underlying318
 a210:=Tryz.isAgg318
 z210:=Tryz.sizeOf318
 v210:=Tryz.zeroValue318
 t212:=Tryz.underlying306
 a212:=Tryz.isAgg306
 z212:=Tryz.sizeOf306
 v212:=Tryz.zeroValue306
 t213:=Tryz.underlying307
 a213:=Tryz.isAgg307
 z213:=Tryz.sizeOf307
 t232:=Tryz.underlying272
 a232:=Tryz.isAgg272
 z232:=Tryz.sizeOf272
 v232:=Tryz.zeroValue272
 t233:=Tryz.underlying273
 a233:=Tryz.isAgg273
 z233:=Tryz.sizeOf273
 v233:=Tryz.zeroValue273
 g15:=by kernel_rfl
 g16:=by kernel_rfl
 g17:=by kernel_rfl
 g18:=by kernel_rfl
 g19:=by kernel_rfl
 t80:=Tryz.underlying129
 a80:=Tryz.isAgg129
 z80:=Tryz.sizeOf129
 v80:=Tryz.zeroValue129
 i0:=by kernel_rfl
 i2:=by kernel_rfl
 i3:=by kernel_rfl
 i4:=by kernel_rfl
 i5:=by kernel_rfl
 i9:=by kernel_rfl
 i20:=by kernel_rfl
 i21:=by kernel_rfl
 i37:=by kernel_rfl
 i46:=by kernel_rfl
 i51:=by kernel_rfl
 i53:=by kernel_rfl
 i75:=by kernel_rfl
 i80:=by kernel_rfl
 i85:=by kernel_rfl
 i127:=by kernel_rfl
 i143:=by kernel_rfl
 i145:=by kernel_rfl
 i167:=by kernel_rfl
 i168:=by kernel_rfl
 i171:=by kernel_rfl
 i173:=by kernel_rfl
 i175:=by kernel_rfl
 i210:=by kernel_rfl
 i212:=by kernel_rfl
 i232:=by kernel_rfl
 i233:=by kernel_rfl
 m15:=by kernel_rfl
 m16:=by kernel_rfl
 m17:=by kernel_rfl
 m18:=by kernel_rfl
 m19:=by kernel_rfl
 c0:=by kernel_rfl
 c2:=by kernel_rfl
 c3:=by kernel_rfl
 c4:=by kernel_rfl
 c5:=by kernel_rfl
 c9:=by kernel_rfl
 c20:=by kernel_rfl
 c21:=by kernel_rfl
 c37:=by kernel_rfl
 c46:=by kernel_rfl
 c51:=by kernel_rfl
 c53:=by kernel_rfl
 c75:=by kernel_rfl
 c80:=by kernel_rfl
 c85:=by kernel_rfl
 c127:=by kernel_rfl
 c143:=by kernel_rfl
 c145:=by kernel_rfl
 c167:=by kernel_rfl
 c168:=by kernel_rfl
 c171:=by kernel_rfl
 c173:=by kernel_rfl
 c175:=by kernel_rfl
 c210:=by kernel_rfl
 c212:=by kernel_rfl
 c213:=by kernel_rfl
 c232:=by kernel_rfl
 c233:=by kernel_rfl}
open Go.RowKit in
theorem Tryz.strconv_ParseInt_10_at64_ok(s:ByteArray)(hmax:s.size<=9223372036854775806)(v:Int)(h:Lib.parseIntB 64 s.data.toList=.ok v)(w:World):
  Calls Tryz.prog 224 #[.string s,.int .i64 10,.int .i64 64] w fun e w'=>e=.returned (.tuple #[.int .i64 v,.nilIface])∧(w'=w∨∃t,w'=Lib.bytesWorld w 5 t):=Any.strconv_ParseInt_10_at64_ok Tryz.laysC174 s hmax v h w
open Go.RowKit in
theorem Tryz.strconv_ParseInt_10_at64_syntax(s:ByteArray)(hlim:s.size<=281474976710656)(h:Lib.parseIntB 64 s.data.toList=Go.Lib.NumEnd.syntax)(ev:Value)(w:World)(hv:w.cell? ⟨4,0,none⟩=some ev)(hev:ev=.nilIface∨∃te pe,ev=.iface te pe):
  Calls Tryz.prog 224 #[.string s,.int .i64 10,.int .i64 64] w fun e w'=>∃N,e=.returned (.tuple #[.int .i64 0,.iface 295 (.pointer (some ⟨N,0,none⟩))])∧w.heap.size<=N∧w'.heap[N]? =some (.cells #[.string ⟨#[80,97,114,115,101,73,110,116]⟩,.string s,ev] 318 (0,0))∧Below w.heap.size w w':=Any.strconv_ParseInt_10_at64_syntax Tryz.laysC174 s hlim h ev w hv hev
open Go.RowKit in
theorem Tryz.strconv_ParseInt_10_at64_range(s:ByteArray)(hlim:s.size<=281474976710656)(h:Lib.parseIntB 64 s.data.toList=.range)(ev:Value)(w:World)(hv:w.cell? ⟨5,0,none⟩=some ev)(hev:ev=.nilIface∨∃te pe,ev=.iface te pe):
  Calls Tryz.prog 224 #[.string s,.int .i64 10,.int .i64 64] w fun e w'=>∃N,e=.returned (.tuple #[.int .i64 (Lib.intSat 64 s.data.toList),.iface 295 (.pointer (some ⟨N,0,none⟩))])∧w.heap.size<=N∧w'.heap[N]? =some (.cells #[.string ⟨#[80,97,114,115,101,73,110,116]⟩,.string s,ev] 318 (0,0))∧Below w.heap.size w w':=Any.strconv_ParseInt_10_at64_range Tryz.laysC174 s hlim h ev w hv hev
def Tryz.lays145_ren:Go.Shelf.Ren:=⟨fun|145=>61|220=>124|219=>159|217=>186|225=>187|224=>188|267=>189|266=>219|314=>220|n=>n,fun|9=>9|4=>4|59=>138|3=>3|5=>5|46=>192|146=>287|51=>254|n=>n,fun|1=>0|n=>n⟩
theorem Tryz.lays145:Go.Proofs.Lays.n145 Tryz.prog Tryz.lays145_ren:={
 mixed:=by kernel_rfl
 f145:=Tryz.func61.trans (congrArg some (by kernel_rfl))
 f217:=Tryz.func186.trans (congrArg some (by kernel_rfl))
 f219:=Tryz.func159.trans (congrArg some (by kernel_rfl))
 f220:=Tryz.func124.trans (congrArg some (by kernel_rfl))
 f224:=Tryz.func188.trans (congrArg some (by kernel_rfl))
 f225:=Tryz.func187.trans (congrArg some (by kernel_rfl))
 f266:=Tryz.func219.trans (congrArg some (by kernel_rfl))
 f267:=Tryz.func189.trans (congrArg some (by kernel_rfl))
 f314:=Tryz.func220.trans (congrArg some (by kernel_rfl))
 t3:=Tryz.underlying3
 a3:=Tryz.isAgg3
 z3:=Tryz.sizeOf3
 v3:=Tryz.zeroValue3
 t4:=Tryz.underlying4
 a4:=Tryz.isAgg4
 z4:=Tryz.sizeOf4
 v4:=Tryz.zeroValue4
 t5:=Tryz.underlying5
 a5:=Tryz.isAgg5
 z5:=Tryz.sizeOf5
 v5:=Tryz.zeroValue5
 t9:=Tryz.underlying9
 a9:=Tryz.isAgg9
 z9:=Tryz.sizeOf9
 v9:=Tryz.zeroValue9
 t46:=Tryz.underlying192
 a46:=Tryz.isAgg192
 z46:=Tryz.sizeOf192
 v46:=Tryz.zeroValue192
 t51:=Tryz.underlying254
 a51:=Tryz.isAgg254
 z51:=Tryz.sizeOf254
 v51:=Tryz.zeroValue254
 t59:=Tryz.underlying138
 a59:=Tryz.isAgg138
 z59:=Tryz.sizeOf138
 v59:=Tryz.zeroValue138
 t146:=Tryz.underlying287
 a146:=Tryz.isAgg287
 z146:=Tryz.sizeOf287
 v146:=Tryz.zeroValue287
 g1:=by kernel_rfl}
open Go.RowKit Go.Lib in
theorem Tryz.strings_Cut(s sep:ByteArray)(m:Int)(w:World)(hs:s.size<4294967281)(hm:w.cell? ⟨0,0,none⟩=some (.int .i64 m)):
  Calls Tryz.prog 61 #[.string s,.string sep] w fun e w'=>e=.returned (.tuple #[.string ⟨(Lib.cut s.data.toList sep.data.toList).1.toArray⟩,.string ⟨(Lib.cut s.data.toList sep.data.toList).2.1.toArray⟩,.bool (Lib.cut s.data.toList sep.data.toList).2.2])∧∃n,w'=w.drewN n:=Any.strings_Cut Tryz.lays145 s sep m w hs hm
def Tryz.lays146_ren:Go.Shelf.Ren:=⟨fun|146=>125|221=>160|268=>190|138=>191|143=>192|195=>221|197=>222|218=>223|219=>159|260=>251|217=>186|225=>187|224=>188|267=>189|266=>219|314=>220|n=>n,fun|9=>9|31=>209|3=>3|4=>4|0=>0|105=>290|21=>21|5=>5|46=>192|119=>325|139=>328|138=>327|146=>287|51=>254|n=>n,fun|1=>0|3=>8|4=>9|n=>n⟩
theorem Tryz.lays146:Go.Proofs.Lays.n146 Tryz.prog Tryz.lays146_ren:={
 mixed:=by kernel_rfl
 f138:=Tryz.func191.trans (congrArg some (by kernel_rfl))
 f143:=Tryz.func192.trans (congrArg some (by kernel_rfl))
 f146:=Tryz.func125.trans (congrArg some (by kernel_rfl))
 f195:=Tryz.func221.trans (congrArg some (by kernel_rfl))
 f197:=Tryz.func222.trans (congrArg some (by kernel_rfl))
 f217:=Tryz.func186.trans (congrArg some (by kernel_rfl))
 f218:=Tryz.func223.trans (congrArg some (by kernel_rfl))
 f219:=Tryz.func159.trans (congrArg some (by kernel_rfl))
 f221:=Tryz.func160.trans (congrArg some (by kernel_rfl))
 f224:=Tryz.func188.trans (congrArg some (by kernel_rfl))
 f225:=Tryz.func187.trans (congrArg some (by kernel_rfl))
 f260:=Tryz.func251.trans (congrArg some (by kernel_rfl))
 f266:=Tryz.func219.trans (congrArg some (by kernel_rfl))
 f267:=Tryz.func189.trans (congrArg some (by kernel_rfl))
 f268:=Tryz.func190.trans (congrArg some (by kernel_rfl))
 f314:=Tryz.func220.trans (congrArg some (by kernel_rfl))
 t0:=Tryz.underlying0
 a0:=Tryz.isAgg0
 z0:=Tryz.sizeOf0
 v0:=Tryz.zeroValue0
 t3:=Tryz.underlying3
 a3:=Tryz.isAgg3
 z3:=Tryz.sizeOf3
 v3:=Tryz.zeroValue3
 t4:=Tryz.underlying4
 a4:=Tryz.isAgg4
 z4:=Tryz.sizeOf4
 v4:=Tryz.zeroValue4
 t5:=Tryz.underlying5
 a5:=Tryz.isAgg5
 z5:=Tryz.sizeOf5
 v5:=Tryz.zeroValue5
 t9:=Tryz.underlying9
 a9:=Tryz.isAgg9
 z9:=Tryz.sizeOf9
 v9:=Tryz.zeroValue9
 t21:=Tryz.underlying21
 a21:=Tryz.isAgg21
 z21:=Tryz.sizeOf21
 v21:=Tryz.zeroValue21
 t31:=Tryz.underlying209
 a31:=Tryz.isAgg209
 z31:=Tryz.sizeOf209
 v31:=Tryz.zeroValue209
 t46:=Tryz.underlying192
 a46:=Tryz.isAgg192
 z46:=Tryz.sizeOf192
 v46:=Tryz.zeroValue192
 t51:=Tryz.underlying254
 a51:=Tryz.isAgg254
 z51:=Tryz.sizeOf254
 v51:=Tryz.zeroValue254
 t105:=Tryz.underlying290
 a105:=Tryz.isAgg290
 z105:=Tryz.sizeOf290
 v105:=Tryz.zeroValue290
 t119:=Tryz.underlying325
 a119:=Tryz.isAgg325
 z119:=Tryz.sizeOf325
 t138:=Tryz.underlying327
 a138:=Tryz.isAgg327
 z138:=Tryz.sizeOf327
 v138:=Tryz.zeroValue327
 t139:=Tryz.underlying328
 a139:=Tryz.isAgg328
 z139:=Tryz.sizeOf328
 v139:=Tryz.zeroValue328
 t146:=Tryz.underlying287
 a146:=Tryz.isAgg287
 z146:=Tryz.sizeOf287
 v146:=Tryz.zeroValue287
 g1:=by kernel_rfl
 g3:=by kernel_rfl
 g4:=by kernel_rfl}
open Go.RowKit Go.Lib in
theorem Tryz.strings_Split(s sep:ByteArray)(m:Int)(w:World)(hs:s.size<4294967281)(hm:w.cell? ⟨0,0,none⟩=some (.int .i64 m))(h1:1<=sep.size):
  Calls Tryz.prog 125 #[.string s,.string sep] w fun e w'=>
   e=.returned (.slice (some ⟨w.heap.size,0,none⟩) (Lib.countB s sep+1) (Lib.countB s sep+1))∧w'=w.alloc (.cells ((Lib.splitB sep 0 (Lib.countB s sep) s).map Value.string).toArray 9):=Any.strings_Split Tryz.lays146 (by kernel_rfl) s sep m w hs hm h1
def Tryz.lays166_ren:Go.Shelf.Ren:=⟨fun|166=>52|240=>110|276=>149|n=>n,fun|0=>0|3=>3|4=>4|9=>9|20=>20|37=>98|70=>113|72=>115|75=>119|164=>234|80=>129|5=>5|n=>n,fun|n=>n⟩
theorem Tryz.lays166:Go.Proofs.Lays.n166 Tryz.prog Tryz.lays166_ren:={
 mixed:=by kernel_rfl
 f166:=Tryz.func52.trans (congrArg some (by kernel_rfl))
 f240:=Tryz.func110.trans (congrArg some (by kernel_rfl))
 f276:=Tryz.func149.trans (congrArg some (by kernel_rfl))
 t0:=Tryz.underlying0
 a0:=Tryz.isAgg0
 z0:=Tryz.sizeOf0
 v0:=Tryz.zeroValue0
 t3:=Tryz.underlying3
 a3:=Tryz.isAgg3
 z3:=Tryz.sizeOf3
 v3:=Tryz.zeroValue3
 t4:=Tryz.underlying4
 a4:=Tryz.isAgg4
 z4:=Tryz.sizeOf4
 v4:=Tryz.zeroValue4
 t9:=Tryz.underlying9
 a9:=Tryz.isAgg9
 z9:=Tryz.sizeOf9
 v9:=Tryz.zeroValue9
 t20:=Tryz.underlying20
 a20:=Tryz.isAgg20
 z20:=Tryz.sizeOf20
 v20:=Tryz.zeroValue20
 t37:=Tryz.underlying98
 a37:=Tryz.isAgg98
 z37:=Tryz.sizeOf98
 v37:=Tryz.zeroValue98
 t70:=Tryz.underlying113
 a70:=Tryz.isAgg113
 z70:=Tryz.sizeOf113
 v70:=Tryz.zeroValue113
 t72:=Tryz.underlying115
 a72:=Tryz.isAgg115
 z72:=Tryz.sizeOf115
 v72:=Tryz.zeroValue115
 t75:=Tryz.underlying119
 a75:=Tryz.isAgg119
 z75:=Tryz.sizeOf119
 v75:=Tryz.zeroValue119
 t164:=Tryz.underlying234
 a164:=Tryz.isAgg234
 z164:=Tryz.sizeOf234
 v164:=Tryz.zeroValue234}
theorem Tryz.Builder_Extra_166:Builder.Extra Tryz.prog Tryz.lays166_ren:={
 sizeBuilder:=by kernel_rfl
 liesBuilder:=by kernel_rfl
 t5:=Tryz.underlying5
 a5:=Tryz.isAgg5
 z5:=Tryz.sizeOf5
 v5:=Tryz.zeroValue5
 infoByte:=by kernel_rfl
 cellsByte:=by kernel_rfl
 sizeByte:=by kernel_rfl
 neB5:=by decide}
end Go.Proofs
namespace Go.Proofs.YtkcnkimndhgkgaaGreatDoor
open Go.Ev Go.RowKit
structure Wd(w:World):Prop where
 pow:Lib.TabIs Tryz.prog w "internal/strconv.uint64pow10" .u64 Lib.pow10Tab
 tz:Ld.Wt w
 len:∃m,w.cell? ⟨0,0,none⟩=some (.int .i64 m)
 syn:∃te pe,w.cell? ⟨4,0,none⟩=some (.iface te pe)
 rng:∃te pe,w.cell? ⟨5,0,none⟩=some (.iface te pe)
theorem cell_later{w w':World}{b j:Nat}{v:Value}(h:w.cell? ⟨b,j,none⟩=some v)(hb:Below w.heap.size w w'):w'.cell? ⟨b,j,none⟩=some v:=by
 rw[hb.cell (p:=⟨b,j,none⟩) (Lib.lt_of_cell h)];exact h
theorem pow_block{w w':World}(h:Lib.TabIs Tryz.prog w "internal/strconv.uint64pow10" .u64 Lib.pow10Tab)(hb:Below w.heap.size w w'):Lib.TabIs Tryz.prog w' "internal/strconv.uint64pow10" .u64 Lib.pow10Tab:=by
 have h0:=h.cell (g:=3) (by kernel_rfl) 0 (by decide);have hlt:3<w.heap.size:=Lib.lt_of_cell h0;unfold Lib.TabIs World.var? at h⊢;rw[show Tryz.prog.globalNamed "internal/strconv.uint64pow10"=some 3 by kernel_rfl]at h⊢;have hbk:=hb.block 3 hlt;show(match w'.heap[3]? with|some (.cells cs _ _)=>some cs|_=>none)=_
 rw[hbk];exact h
theorem Wd.later{w w':World}(h:Wd w)(hb:Below w.heap.size w w'):Wd w':=
 ⟨pow_block h.pow hb,h.tz.later hb,by obtain⟨m,hm⟩:=h.len;exact⟨m,cell_later hm hb⟩,by obtain⟨a,b,hm⟩:=h.syn;exact⟨a,b,cell_later hm hb⟩,by obtain⟨a,b,hm⟩:=h.rng;exact⟨a,b,cell_later hm hb⟩⟩
inductive ResE:List D->List Value->List Value->Prop
 |nil:ResE [] [] []
 |v{x:Value}{ds:List D}{us cs:List Value}:atom1 x=true->ResE ds us cs->ResE (.v x::ds) (x::us) (x::cs)
 |err{b:Bool}{c:Value}{ds:List D}{us cs:List Value}:(b=true->∃t x,c=.iface t x)->(b=false->c=.nilIface)->ResE ds us cs->ResE (.err b::ds) (errV b::us) (c::cs)
theorem ResE.from{ds:List D}{us cs:List Value}(h:ResE ds us cs)(m:List (Option Blk)):fromDs true ds m=some (us,m):=by
 induction h with
 |nil=>rfl
 |v ha _ ih=>simp only[fromDs,fromD,fromD1,ha,ih]
 |err _ _ _ ih=>simp only[fromDs,fromD,fromD1,ih]
theorem ResE.vs{ρ:Map}{N:Nat}{ds:List D}{us cs:List Value}(h:ResE ds us cs):Vs ρ N us cs:=by
 induction h with
 |nil=>exact .nil
 |v ha _ ih=>exact .cons (V.refl1 ha) ih
 |err h1 h2 _ ih=>exact .cons (.iface h1 h2) ih
theorem denW_of_below{P:Program}{W:World->Prop}(hst:∀w w',W w->Below w.heap.size w w'->W w'){f:FuncId}{F:FD}
  (h:∀ds rs,F ds=some (true,rs)->∃xs:List Value,ds=xs.map D.v∧(∀x∈xs,atom1 x=true)∧∀w,W w->Calls P f ⟨xs⟩ w fun e w'=>∃us cs,e=.returned (tupV cs)∧ResE rs us cs∧Below w.heap.size w w'):DenW P W f F:=by
 intro wb hwb ds rs hF w hbw args vs' mem ρ hfrom _ hl hv;obtain⟨xs,rfl,hx,hc⟩:=h ds rs hF;rw[fromDs_plain false xs [] hx]at hfrom;simp only[A5,A6]at hfrom;obtain⟨e1,e2⟩:=hfrom;subst e1;subst e2;have hargs:args=xs:=by
  apply List.ext_getElem?;intro i;by_cases hi:i<xs.length
  ·have h1:xs[i]? =some xs[i]:=AK hi;have h2:args[i]? =some args[i]:=AK (by omega);rw[h1,h2,(hv i _ _ h1 h2).atom1_eq (hx _ (List.getElem_mem hi))]
  ·rw[List.getElem?_eq_none (by omega),List.getElem?_eq_none (by omega)]
 subst hargs;refine(hc w (hst wb w hwb hbw)).mono fun e w' ⟨us,cs,he,hr,hb⟩=>?_;exact⟨tupV cs,he,hb,us,[],fun _=>none,hr.from [],⟨fun id b h=>by simp at h,fun _ _=>rfl,fun i j b h=>by obtain⟨_,_,_,h2,_⟩:=h;simp at h2⟩,hr.vs.tupV⟩
def txt(l:List UInt8):ByteArray:=⟨l.toArray⟩
def str(l:List UInt8):Value:=.string (txt l)
def by_(s:ByteArray):List UInt8:=s.data.toList
theorem drew_below(w:World)(n:Nat):Below w.heap.size w (w.drewN n):=⟨rfl,rfl,rfl,AC _,fun _ _=>rfl⟩
theorem grow_below(w:World)(n:Nat)(os:Array Obj):Below w.heap.size w (Go.Sort.grow (w.drewN n) os):=⟨rfl,rfl,rfl,by show w.heap.size<=(w.heap++os).size;simp,fun k hk=>by
 show(w.heap++os)[k]? =_;rw[Array.getElem?_append_left hk]⟩
def iR(n:Int):Bool:=-9223372036854775808<=n∧n<=9223372036854775807
theorem iR_iff{n:Int}:iR n=true↔-9223372036854775808<=n∧n<=9223372036854775807:=by unfold iR;rw[A3]
def Ffmt:FD
 |[.v (.int .i64 n),.v (.int .i64 b)]=>some (iR n&&decide (b=10),[.v (str (Lib.itoa n))])
 |_=>none
theorem den_fmt:DenW Tryz.prog Wd 180 Ffmt:=denW_of_below (fun _ _ h hb=>h.later hb) fun ds rs h=>by
 unfold Ffmt at h;split at h
 ·rename_i n b;simp only[A5,A6,A2,A3]at h;obtain⟨⟨h0,rfl⟩,rfl⟩:=h;obtain⟨h1,h2⟩:=iR_iff.1 h0;refine⟨[.int .i64 n,.int .i64 10],rfl,fun y hy=>?_,fun w hw=>?_⟩
  ·simp only[A8,A7,or_false]at hy;rcases hy with rfl|rfl<;>rfl
  ·refine(Tryz.strconv_FormatInt_10 n h1 (by omega) w hw.pow).mono fun e w' ⟨he,k,os,hw'⟩=>?_;subst hw';exact⟨_,[str (Lib.itoa n)],he,.v rfl .nil,grow_below w k os⟩
 ·cases h
def Fcut:FD
 |[.v (.string s),.v (.string p)]=>some (s.size<4294967281,[.v (str (Lib.cut (by_ s) (by_ p)).1),.v (str (Lib.cut (by_ s) (by_ p)).2.1),.v (.bool (Lib.cut (by_ s) (by_ p)).2.2)])
 |_=>none
theorem den_cut:DenW Tryz.prog Wd 61 Fcut:=denW_of_below (fun _ _ h hb=>h.later hb) fun ds rs h=>by
 unfold Fcut at h;split at h
 ·rename_i s p;simp only[A5,A6,A3]at h;obtain⟨h0,rfl⟩:=h;refine⟨[.string s,.string p],rfl,fun y hy=>?_,fun w hw=>?_⟩
  ·simp only[A8,A7,or_false]at hy;rcases hy with rfl|rfl<;>rfl
  ·obtain⟨m,hm⟩:=hw.len;refine(Tryz.strings_Cut s p m w h0 hm).mono fun e w' ⟨he,n,hw'⟩=>?_;subst hw';exact⟨_,[str (Lib.cut (by_ s) (by_ p)).1,str (Lib.cut (by_ s) (by_ p)).2.1,.bool (Lib.cut (by_ s) (by_ p)).2.2],he,.v rfl (.v rfl (.v rfl .nil)),drew_below w n⟩
 ·cases h
def aiN(l:List UInt8):Int:=match Lib.atoiAll l with
 |.ok v=>v
 |Go.Lib.NumEnd.syntax=>0
 |.range=>Lib.atoiSat l
def aiE(l:List UInt8):Bool:=match Lib.atoiAll l with
 |.ok _=>false
 |_=>true
def Fatoi:FD
 |[.v (.string s)]=>some (s.size<=4294967296,[.v (i64 (aiN (by_ s))),.err (aiE (by_ s))])
 |_=>none
theorem den_atoi:DenW Tryz.prog Wd 162 Fatoi:=denW_of_below (fun _ _ h hb=>h.later hb) fun ds rs h=>by
 unfold Fatoi at h;split at h
 ·rename_i s;simp only[A5,A6,A3]at h;obtain⟨h0,rfl⟩:=h;refine⟨[.string s],rfl,fun y hy=>?_,fun w hw=>?_⟩
  ·simp only[A8,A7,or_false]at hy;rcases hy with rfl;rfl
  ·unfold aiN aiE by_;rcases hp:Lib.atoiAll s.data.toList with v|_|_
   ·refine(Tryz.strconv_Atoi_ok s (by omega) v hp w).mono fun e w' ⟨he,hw'⟩=>?_;refine⟨_,[i64 v,.nilIface],he,.v rfl (.err (fun h=>by cases h) (fun _=>rfl) .nil),?_⟩;rcases hw' with rfl|⟨t,rfl⟩
    ·exact Below.refl _ _
    ·exact Lib.bytesWorld_below _ _ _
   ·obtain⟨te,pe,hs⟩:=hw.syn;refine(Tryz.strconv_Atoi_syntax s (by omega) hp _ w hs (.inr ⟨te,pe,rfl⟩)).mono fun e w' ⟨N,he,_,_,hb⟩=>?_;exact⟨_,[i64 0,.iface 295 (.pointer (some ⟨N,0,none⟩))],he,.v rfl (.err (fun _=>⟨_,_,rfl⟩) (fun h=>by cases h) .nil),hb⟩
   ·obtain⟨te,pe,hs⟩:=hw.rng;refine(Tryz.strconv_Atoi_range s (by omega) hp _ w hs (.inr ⟨te,pe,rfl⟩)).mono fun e w' ⟨N,he,_,_,hb⟩=>?_;exact⟨_,[i64 _,.iface 295 (.pointer (some ⟨N,0,none⟩))],he,.v rfl (.err (fun _=>⟨_,_,rfl⟩) (fun h=>by cases h) .nil),hb⟩
 ·cases h
def piN(l:List UInt8):Int:=match Lib.parseIntB 64 l with
 |.ok v=>v
 |Go.Lib.NumEnd.syntax=>0
 |.range=>Lib.intSat 64 l
def piE(l:List UInt8):Bool:=match Lib.parseIntB 64 l with
 |.ok _=>false
 |_=>true
def Fpint:FD
 |[.v (.string s),.v (.int .i64 b),.v (.int .i64 z)]=>some (decide (b=10)&&decide (z=64)&&decide (s.size<=4294967296),[.v (i64 (piN (by_ s))),.err (piE (by_ s))])
 |_=>none
theorem den_pint:DenW Tryz.prog Wd 224 Fpint:=denW_of_below (fun _ _ h hb=>h.later hb) fun ds rs h=>by
 unfold Fpint at h;split at h
 ·rename_i s b z;simp only[A5,A6,A2,A3]at h;obtain⟨⟨⟨rfl,rfl⟩,h0⟩,rfl⟩:=h;refine⟨[.string s,.int .i64 10,.int .i64 64],rfl,fun y hy=>?_,fun w hw=>?_⟩
  ·simp only[A8,A7,or_false]at hy;rcases hy with rfl|rfl|rfl<;>rfl
  ·unfold piN piE by_;rcases hp:Lib.parseIntB 64 s.data.toList with v|_|_
   ·refine(Tryz.strconv_ParseInt_10_at64_ok s (by omega) v hp w).mono fun e w' ⟨he,hw'⟩=>?_;refine⟨_,[i64 v,.nilIface],he,.v rfl (.err (fun h=>by cases h) (fun _=>rfl) .nil),?_⟩;rcases hw' with rfl|⟨t,rfl⟩
    ·exact Below.refl _ _
    ·exact Lib.bytesWorld_below _ _ _
   ·obtain⟨te,pe,hs⟩:=hw.syn;refine(Tryz.strconv_ParseInt_10_at64_syntax s (by omega) hp _ w hs (.inr ⟨te,pe,rfl⟩)).mono fun e w' ⟨N,he,_,_,hb⟩=>?_;exact⟨_,[i64 0,.iface 295 (.pointer (some ⟨N,0,none⟩))],he,.v rfl (.err (fun _=>⟨_,_,rfl⟩) (fun h=>by cases h) .nil),hb⟩
   ·obtain⟨te,pe,hs⟩:=hw.rng;refine(Tryz.strconv_ParseInt_10_at64_range s (by omega) hp _ w hs (.inr ⟨te,pe,rfl⟩)).mono fun e w' ⟨N,he,_,_,hb⟩=>?_;exact⟨_,[i64 _,.iface 295 (.pointer (some ⟨N,0,none⟩))],he,.v rfl (.err (fun _=>⟨_,_,rfl⟩) (fun h=>by cases h) .nil),hb⟩
 ·cases h
def rowS(l:List ByteArray):Row:=.mk l.length (fun _ _=>0) (fun _ _=>false) (fun e _=>l.getD e .empty) (fun _ _=>.nil)
def splS(s p:ByteArray):List ByteArray:=Lib.splitB p 0 (Lib.countB s p) s
def Fsplit:FD
 |[.v (.string s),.v (.string p)]=>some (decide (s.size<4294967281)&&decide (1<=p.size),[.slice [.str] (rowS (splS s p))])
 |_=>none
theorem plainArgs{N:Nat}{ρ:Map}{args xs:List Value}(hl:xs.length=args.length)(hx:∀x∈xs,atom1 x=true)(hv:∀(i:Nat)(x c:Value),xs[i]? =some x->args[i]? =some c->V ρ N x c):args=xs:=by
 apply List.ext_getElem?;intro i;by_cases hi:i<xs.length
 ·have h1:xs[i]? =some xs[i]:=AK hi;have h2:args[i]? =some args[i]:=AK (by omega);rw[h1,h2,(hv i _ _ h1 h2).atom1_eq (hx _ (List.getElem_mem hi))]
 ·rw[List.getElem?_eq_none (by omega),List.getElem?_eq_none (by omega)]
theorem den_split:DenW Tryz.prog Wd 125 Fsplit:=by
 intro wb hwb ds rs hF w hbw args vs mem ρ hfrom _ hl hv;unfold Fsplit at hF;split at hF
 ·rename_i s p;simp only[A5,A6,A2,A3]at hF;obtain⟨⟨h0,h1⟩,rfl⟩:=hF;have e1:vs=[.string s,.string p]:=by
   have:fromDs false [D.v (.string s),D.v (.string p)] []=some ([.string s,.string p],[]):=rfl;rw[this]at hfrom;simp only[A5,A6]at hfrom;exact hfrom.1.symm
  subst e1;have e2:=plainArgs hl (fun x hx=>by simp only[A8,A7,or_false]at hx;rcases hx with rfl|rfl<;>rfl) hv;subst e2;have hw:=hwb.later hbw;obtain⟨m,hm⟩:=hw.len;have hlen:(splS s p).length=Lib.countB s p+1:=Lib.splitB_all p h1 0 _ s rfl;refine(Tryz.strings_Split s p m w h0 hm h1).mono fun e w' ⟨he,hw'⟩=>?_;subst hw';have hnew:(w.alloc (.cells ((splS s p).map Value.string).toArray 9)).heap[w.heap.size]? =some (.cells ((splS s p).map Value.string).toArray 9 (0,0)):=by
   show(w.heap.push _)[w.heap.size]? =_;simp
  refine⟨_,he,(Below.refl _ w).alloc (AC _) _,[.slice (some ⟨0,0,some 0⟩) (splS s p).length 0],[some (.row [.str] true (rowS (splS s p)))],fun i=>if i=0 then some ⟨w.heap.size,0,1,(splS s p).length,(splS s p).length,true,s0⟩else none,rfl,?_,?_⟩
  ·refine⟨fun id b hb=>?_,fun id hid=>?_,fun i j b hi hj=>?_⟩
   ·match id,hb with
    |0,hb=>
     simp only[List.getElem?_cons_zero,A5]at hb;subst hb;refine⟨_,AM rfl,rfl,rfl,fun _=>⟨rfl,AC _,fun _=>⟨AC _,_,_,hnew,?_⟩⟩,fun hn=>⟨(fun h=>by cases h),?_⟩,rfl⟩
     ·show 0+(splS s p).length*1<=_;simp
     ·refine .mk (fun e _=>.string ((splS s p).getD e .empty)) (fun e j k he hk=>?_) (fun e j k he hk=>?_)
      ·match j,hk with
       |0,hk=>
        have he:e<(splS s p).length:=he;show(w.alloc (.cells ((splS s p).map Value.string).toArray 9)).cell? ⟨w.heap.size,0+e*1+0,none⟩=_;rw[Lib.cell_of_heap hnew];show((splS s p).map Value.string).toArray[0+e*1+0]? =_;rw[show 0+e*1+0=e by omega];simp[he,List.getD_eq_getElem?_getD]
      ·match j,hk with
       |0,hk=>
        cases hk;exact .str
   ·match id with
    |0=>exact absurd rfl (hid _)
    |n+1=>exact AL (by omega)
   ·obtain⟨L,blk,g1,g2,_⟩:=hi;obtain⟨L',blk',g1',g2',_⟩:=hj;have a1:i=0:=by
     match i,g2 with
     |0,_=>rfl
    have a2:j=0:=by
     match j,g2' with
     |0,_=>rfl
    omega
  ·show V _ 1 (.slice (some ⟨0,0,some 0⟩) (splS s p).length 0) (.slice (some ⟨w.heap.size,0,none⟩) (Lib.countB s p+1) (Lib.countB s p+1));rw[<-hlen];exact .slice (L:=⟨w.heap.size,0,1,(splS s p).length,(splS s p).length,true,s0⟩) (by omega) (AM rfl) (by show 0+_<=(splS s p).length;omega) (AC _) (fun _=>by show _=some (Loc.adr _ 0 0);rfl) (fun _=>⟨by show 0+_<=(splS s p).length;omega,.inr rfl⟩)
 ·cases hF
theorem by_txt(l:List UInt8):by_ (txt l)=l:=rfl
theorem txt_by(s:ByteArray):txt (by_ s)=s:=by cases s;rfl
theorem txt_size(l:List UInt8):(txt l).size=l.length:=by
 show l.toArray.size=_;simp
theorem txt_app(a b:List UInt8):txt a++txt b=txt (a++b):=ByteArray.mk_append_mk a b
theorem size_by(s:ByteArray):s.size=(by_ s).length:=by
 unfold by_;rw[Array.length_toList];rfl
theorem toList_by(s:ByteArray):s.toList=by_ s:=ByteArray.toList_eq s
theorem by_inj{a b:ByteArray}(h:by_ a=by_ b):a=b:=by rw[<-txt_by a,<-txt_by b,h]
theorem by_app(a b:ByteArray):by_ (a++b)=by_ a++by_ b:=by
 conv=>lhs;rw[<-txt_by a,<-txt_by b,txt_app]
 exact by_txt _
open Go.Lib in
theorem nDigits_lt:∀(k u:Nat),u<10^(k+1)->nDigits u<=k+1
 |0,u,h=>by rw[nDigits_small (by simpa using h)];exact AC _
 |k+1,u,h=>by
  by_cases hs:u<10
  ·rw[nDigits_small hs];omega
  ·rw[nDigits_big hs];have:=nDigits_lt k (u/10) (by rw[Nat.pow_succ]at h;omega);omega
open Go.Lib in
theorem itoa_len{n:Int}(h:iR n=true):(itoa n).length<=21:=by
 obtain⟨h0,h1⟩:=iR_iff.1 h;unfold itoa;by_cases hn:n<0
 ·rw[AM hn];have:=decDigits_length n.natAbs;have h3:=nDigits_lt 19 n.natAbs (by omega);simp only[List.length_cons];omega
 ·rw[AL hn];have:=decDigits_length n.toNat;have h3:=nDigits_lt 19 n.toNat (by omega);omega
open Go.Lib
set_option maxRecDepth 100000
set_option maxHeartbeats 1000000 in
theorem wr_fresh(b:Nat)(w:World)(h0:w.cell? ⟨b,0,none⟩=some (.pointer none))(hsh:w.shape? b=some (117,2))(hfz:w.frozen? ⟨b,0,none⟩=false):
  Calls Tryz.prog 110 #[.pointer (some ⟨b,0,none⟩)] w fun e w'=>e=.returned (.tuple #[])∧w'=w.setCell ⟨b,0,none⟩ (.pointer (some ⟨b,0,none⟩)):=by
 obtain⟨i0,hi,his⟩:=Option.map_eq_some_iff.1 (show(Tryz.prog.info? 115).map (·.size)=some 2 by kernel_rfl)
 go_enter Tryz.func110,Tryz.ntmps110
 go_wp2
 rw[Lib.run_to_unsafe w ⟨b,0,none⟩ Tryz.underlying113 Tryz.underlying234 hi (by rw[his];decide) hsh (Nat.zero_lt_succ 1)];simp only[Result.andThen];rw[Oper.upon_value]
 go_wp2
 rw[run_callFunc_extern Tryz.func149 (by kernel_rfl) (by kernel_rfl) (by kernel_rfl) (e:=Extern.AbiNoEscape.same) (by kernel_rfl)];rw[Lib.run_noEscape];simp only[Result.andThen];rw[Oper.upon_value]
 go_wp2
 rw[Lib.run_from_unsafe w ⟨b,0,none⟩ Tryz.underlying234 Tryz.underlying113 hi hsh (by kernel_rfl)];simp only[Result.andThen];rw[Oper.upon_value]
 go_wp2
 go_end0
 exact⟨rfl,rfl⟩
set_option maxHeartbeats 1000000 in
theorem wr_copy(B b:Nat)(bs:List Value)(w:World)(h:Lib.IsBuilderF 117 5 B b bs w):
  Calls Tryz.prog 110 #[.pointer (some ⟨b,0,none⟩)] w fun e w'=>e=.returned (.tuple #[])∧(Lib.BuilderAtF 117 5 B b (.pointer (some ⟨b,0,none⟩)) bs w'∧Below B w w'∧Lib.OthersKept 5 (some b) w w'):=by
 rcases h with h|h
 ·refine(wr_fresh b w h.cell0 h.shape h.frozen0).mono ?_;rintro e w' ⟨rfl,rfl⟩;exact⟨rfl,h.used _,(Below.refl B w).setCell (p:=⟨b,0,none⟩) h.1 _,(Lib.OthersKept.refl _ _ w).setCell ⟨b,0,none⟩ rfl _⟩
 ·refine(Any.Builder_copyCheck_used {Tryz.lays166 with} Tryz.Builder_Extra_166.toX72 b w h.cell0).mono ?_;rintro e w' ⟨rfl,rfl⟩;exact⟨rfl,h,Below.refl B _,Lib.OthersKept.refl _ _ _⟩
set_option maxHeartbeats 2000000 in
theorem wr_write(B b:Nat)(l:List UInt8)(s:ByteArray)(w:World)(h:Lib.IsBuilderF 117 5 B b (Lib.byteCells l) w)(hlen:l.length+s.size<=140737488355328)(hBw:B<=w.heap.size):
  Calls Tryz.prog 52 #[.pointer (some ⟨b,0,none⟩),.string s] w fun e w'=>e=.returned (.tuple #[.int .i64 s.size,.nilIface])∧Lib.IsBuilderF 117 5 B b (Lib.byteCells (l++by_ s)) w'∧Below B w w'∧Lib.OthersKept 5 (some b) w w':=by
 obtain⟨i0,hi,hz0,hz1,hz2⟩:=info_parts (show(Tryz.prog.info? 5).map (fun i=>(i.zero,i.size,i.bytes))=some (some (.int .u8 0),1,1) by kernel_rfl);have hlen':(Lib.byteCells l).length+s.size<=140737488355328:=by rw[Lib.byteCells_length];exact hlen
 go_enter Tryz.func52,Tryz.ntmps52
 go_wp2_with (first|(go_at_call 110;refine(wr_copy B b (Lib.byteCells l) _ h).mono ?_))
 rintro e w1 ⟨rfl,h1,hb1,hk1⟩;obtain⟨hB,v,hbk,hown,hne⟩:=h1;have c0:w1.cell? ⟨b,0,none⟩=some (.pointer (some ⟨b,0,none⟩)):=by rw[Lib.cell_of_heap hbk];rfl
 have c1:w1.cell? ⟨b,1,none⟩=some v:=by rw[Lib.cell_of_heap hbk];rfl
 go_wp2_with (at_builtin;refine Lib.wpList_append_own_stringF _ rfl _ _ 98 9 rfl B 5 i0 Tryz.underlying98 Tryz.underlying9 hi hz0 hz1 hz2 _ _ _ rfl hown s rfl ?c3 ?c4 ?c5 ?_)
 case c3=>unfold maxLen;omega
 case c4=>omega
 case c5=>have:=hb1.size;omega
 intro v' w2 hown' hgrow _;have hlt:b<w1.heap.size:=by
  rcases Nat.lt_or_ge b w1.heap.size with h'|h'
  ·exact h'
  ·simp[Array.getElem?_eq_none h']at hbk
 have hb2:w2.heap[b]? =some (.cells #[.pointer (some ⟨b,0,none⟩),v] 117 (0,0)):=by
  rw[hgrow.block b hlt (fun e=>hne e.symm)];exact hbk
 have d0:w2.cell? ⟨b,0,none⟩=some (.pointer (some ⟨b,0,none⟩)):=by rw[Lib.cell_of_heap hb2];rfl
 have d1:w2.cell? ⟨b,1,none⟩=some v:=by rw[Lib.cell_of_heap hb2];rfl
 have f1:w2.frozen? ⟨b,1,none⟩=false:=Lib.frozen_of_heap hb2 1;obtain⟨ao,n',cap,rfl⟩:∃ao n' cap,v'=.slice ao n' cap:=by
  rcases hown'.2 with⟨hv,_⟩|⟨g,cap,cur,fz,hv,_⟩
  ·exact⟨_,_,_,hv⟩
  ·exact⟨_,_,_,hv⟩
 go_wp2
 go_ret2
 refine⟨rfl,.inr ?_,?_,(hk1.grown hgrow (Lib.ownsRowF_kind hown)).setCell ⟨b,1,none⟩ rfl _⟩
 ·have hs:Lib.byteCells (l++by_ s)=Lib.byteCells l++Lib.strCells s:=Lib.byteCells_append _ _;rw[hs];exact Lib.BuilderAtF.put (T:=117) (e:=5) hB hb2 (bs':=Lib.byteCells l++Lib.strCells s) (by simpa [Lib.strCells_length]using hown') (by decide)
 ·exact(hb1.grown hgrow (by have:=hb1.size;omega) (fun k hk=>(hown.lt k hk).1)).setCell (p:=⟨b,1,none⟩) hB _
set_option maxHeartbeats 1000000 in
theorem wr_len(B b:Nat)(l:List UInt8)(w:World)(h:Lib.IsBuilderF 117 5 B b (Lib.byteCells l) w):
  Calls Tryz.prog 56 #[.pointer (some ⟨b,0,none⟩)] w fun e w'=>e=.returned (.int .i64 l.length)∧w'=w:=by
 obtain⟨p,hB,v,hbk,hown,hne⟩:∃p,Lib.BuilderAtF 117 5 B b p (Lib.byteCells l) w:=by
  rcases h with h|h
  ·exact⟨_,h⟩
  ·exact⟨_,h⟩
 rw[Lib.byteCells_length]at hown;obtain⟨ao,cap,rfl⟩:∃ao cap,v=.slice ao l.length cap:=by
  rcases hown.2 with⟨hv,h0⟩|⟨g,cap,cur,fz,hv,_⟩
  ·exact⟨none,0,by rw[hv,h0]⟩
  ·exact⟨_,_,hv⟩
 have c1:w.cell? ⟨b,1,none⟩=some (.slice ao l.length cap):=by rw[Lib.cell_of_heap hbk];rfl
 go_enter Tryz.func56,Tryz.ntmps56
 go_wp2
 go_ret
 exact⟨rfl,rfl⟩
set_option maxHeartbeats 1000000 in
theorem wr_text(B b:Nat)(l:List UInt8)(w:World)(h:Lib.IsBuilderF 117 5 B b (Lib.byteCells l) w)(h0:l≠[]):
  Calls Tryz.prog 57 #[.pointer (some ⟨b,0,none⟩)] w fun e w'=>e=.returned (.string (txt l))∧Below B w w':=by
 obtain⟨p,hB,v,hbk,hown,hne⟩:∃p,Lib.BuilderAtF 117 5 B b p (Lib.byteCells l) w:=by
  rcases h with h|h
  ·exact⟨_,h⟩
  ·exact⟨_,h⟩
 have hl0:l.length≠0:=by simpa using h0
 rw[Lib.byteCells_length]at hown;obtain⟨g,cap,cur,fz,rfl,hbg,hg,hfz,hnc,hcm,hcs,htake⟩:∃g cap cur fz,v=.slice (some ⟨g,0,none⟩) l.length cap∧B<=g∧w.heap[g]? =some (.cells cur 5 fz)∧fz.2<=l.length*1∧l.length<=cap∧cap<=maxLen∧cur.size=cap*1∧cur.toList.take (l.length*1)=Lib.byteCells l:=by
  rcases hown.2 with⟨_,hz⟩|⟨g,cap,cur,fz,hv,r⟩
  ·exact absurd hz hl0
  ·exact⟨g,cap,cur,fz,hv,r⟩
 have c1:w.drew.cell? ⟨b,1,none⟩=some (.slice (some ⟨g,0,none⟩) l.length cap):=by
  have:w.drew.heap[b]? =some (.cells #[p,.slice (some ⟨g,0,none⟩) l.length cap] 117 (0,0)):=hbk;rw[Lib.cell_of_heap this];rfl
 have hSD:(Builtin.unsafeSliceData_ #[98] 203 #[.slice (some ⟨g,0,none⟩) l.length cap]).run Tryz.prog w.drew=.ok (.pointer (some ⟨g,0,none⟩)) w.drew:=
  Lib.run_unsafeSliceData_row _ _ _ _ _ _ (by omega)
 have hUS:(Builtin.unsafeString_ #[203,3] 9 #[.pointer (some ⟨g,0,none⟩),.int .i64 l.length]).run Tryz.prog w.drew=.ok (.string ⟨l.toArray⟩) (w.drew.freeze ⟨g,0,none⟩ l.length):=by
  refine Lib.run_unsafeString_row w.drew 203 3 9 5 Tryz.underlying203 (by kernel_rfl) g cur.size (by have hg':w.drew.heap[g]? =some (.cells cur 5 fz):=hg;simp[World.shape?,hg']) l h0 (by omega) (by unfold maxLen at hcm;omega) ?_;intro j x hx;exact hown.cells (g:=g) rfl j (.int .u8 x.toNat) (by simp[Lib.byteCells,hx])
 have mx:Tryz.prog.follows .mixedOrders=true:=mixed
 go_enter Tryz.func57,Tryz.ntmps57
 go_wp2
 go_region_o
 all_goals (go_wp2;go_ret;exact⟨rfl,Lib.below_freeze (Below.drew (Below.refl B w)) (p:=⟨g,0,none⟩) hbg _⟩)
end Go.Proofs.YtkcnkimndhgkgaaGreatDoor

/- A part of the proof of PrintTexts. No conditions. -/
import Derived.Test.YtnljjjghpgdmoaaGreatDoorXag
import Derived.Shelf.LaysM
import Derived.Shelf.LaysC
import Derived.Shelf.Strconv.Itoa4
import Derived.Shelf.Strconv.ErrVarAll
import Derived.Shelf.Strconv.ParseIntPublic10
import Derived.Shelf.Strings.Cut
import Derived.Shelf.Strings.Split
import Derived.Shelf.Strings.OnBuilder
import Derived.Shelf.Strings.BuilderK
import Derived.Shelf.Strings.MapGrows
import Derived.Lib.AtoiErrMem
import Derived.Lib.ItoaMem
import Derived.WalkKit
import Derived.BigCall
set_option linter.all false
namespace Go.Proofs.YtnljjjghpgdmoaaGreatDoor.Ld
open Go.Ev
set_option maxRecDepth 100000
def rsU(b:Row)(j:Nat)(x:Nat×Row):Nat×Row:=(if b.I j 0≠0 then x.1|||2^j else x.1,x.2.setI j 0 (-1))
def NE(b:Row):Nat->Nat->Nat×Row->Nat×Row
 |0,_,x=>x
 |m+1,j,x=>NE b m (j+1) (rsU b j x)
def yX(g h:Nat):Bool:= !Nat.beq (((g^^^h)&&&(18446744073709551616-(g^^^h)))&&&g) 0
def RI(m:Row)(rest low g best:Nat):Nat:=if g&&&low=0∨m.I g 0<1∨m.I (rest^^^g) 0≠wi (m.I rest 0-1)then best else if best=0∨yX g best=true then g else best
def bst(m:Row)(rest low:Nat):Nat->Nat->Nat->Nat
 |0,_,best=>best
 |n+1,g,best=>if g=0 then best else bst m rest low n ((g-1)&&&rest) (RI m rest low g best)
def aV(best:Nat)(group:Int):Nat->Nat->Row->Row
 |0,_,o=>o
 |m+1,j,o=>aV best group m (j+1) (if best.testBit j=true then o.setI j 0 group else o)
def LD(s:Nat):Nat:=s&&&(18446744073709551616-s)
def yA(m:Row)(n:Nat):Nat->Nat->Nat->Row->Option Row
 |f,rest,group,o=>if rest=0 then some o else match f with
  |0=>none
  |f+1=>yA m n f (rest^^^bst m rest (LD rest) (rest+1) rest 0) (group+1) (aV (bst m rest (LD rest) (rest+1) rest 0) group n 0 o)
def S7(nb n n':Nat)(m rest j:Int)(b o:Row):St:=⟨[sl 0 nb]++us 4++[sl 1 n,i64 rest]++us 16++[sl 0 n',i64 m,i64 j]++us 83,[[]],[Rb false b,Rb true o]⟩
def S7x(nb n:Nat)(rest:Int)(b o:Row):St:=⟨[sl 0 nb]++us 4++[sl 1 n,i64 rest]++us 102,[[]],[Rb false b,Rb true o]⟩
def G7(cd:Nat->Nat->Nat->Int->Bool):List It->(X->St->OD)->OD
 |[.n nb,.n n,.n n',.i m,.r b,.r o],k=>br (cd nb n n' m) (k (.exit 0) (S7x nb n (NE b n 0 (0,o)).1 b (NE b n 0 (0,o)).2)) none
 |_,_=>none
def l7(cd:Nat->Nat->Nat->Int->Bool):LoopC where
 f:=39
 id:=7
 lv:=[0,5,6,23,24,25]
 lx:=[0,2,3,5,6]
 p:={τ:=[.v (.sl 0)]++pu 4++[.v (.sl 1),.v (.c (i64 0))]++pu 16++[.v (.sl 0),.v (.int .i64),.v (.c (i64 0))]++pu 83,saved:=[[]],mem:=[.row Js false,.row Js true]}
 G:=G7 cd
def WW(nb no nm:Nat)(rest group low best g:Int)(b o m:Row):St:=⟨[sl 0 nb]++us 4++[sl 1 no,i64 rest]++us 2++[sl 2 nm,i64 group,i64 low,i64 best,i64 g]++us 95,[[]],[Rb false b,Rb true o,Rb true m]⟩
def UB(nb no nm:Nat)(rest group best:Int)(b o m:Row):St:=⟨[sl 0 nb]++us 4++[sl 1 no,i64 rest]++us 2++[sl 2 nm,i64 group]++us 1++[i64 best]++us 96,[[]],[Rb false b,Rb true o,Rb true m]⟩
def G20(cd:Nat->Int->Int->Int->Int->Bool):List It->(X->St->OD)->OD
 |[.n nb,.n no,.i rest,.n nm,.i group,.i low,.i best,.i g,.r b,.r o,.r m],k=>br (cd nm rest low best g) (k (.exit 4) (UB nb no nm rest group (bst m rest.toNat low.toNat (g.toNat+1) g.toNat 0:Nat) b o m)) none
 |_,_=>none
def l20(cd:Nat->Int->Int->Int->Int->Bool):LoopC where
 f:=39
 id:=20
 lv:=[0,5,6,9,10,11,12,13]
 lx:=[0,2,3,5,6,9,10,12]
 p:={τ:=[.v (.sl 0)]++pu 4++[.v (.sl 1),.v (.int .i64)]++pu 2++[.v (.sl 2),.v (.int .i64),.v (.int .i64),.v (.int .i64),.v (.int .i64)]++pu 95,saved:=[[]],mem:=[.row Js false,.row Js true,.row Js true]}
 G:=G20 cd
def S26(nb no nm:Nat)(rest group best c j:Int)(b o m:Row):St:=⟨[sl 0 nb]++us 4++[sl 1 no,i64 rest]++us 2++[sl 2 nm,i64 group]++us 1++[i64 best]++us 78++[i64 c,i64 j]++us 16,[[]],[Rb false b,Rb true o,Rb true m]⟩
def G26(cd:Nat->Int->Int->Bool):List It->(X->St->OD)->OD
 |[.n nb,.n no,.i rest,.n nm,.i group,.i best,.i c,.r b,.r o,.r m],k=>br (cd no best c) (k (.exit 6) (UB nb no nm rest group best b (aV best.toNat group no 0 o) m)) none
 |_,_=>none
def l26(cd:Nat->Int->Int->Bool):LoopC where
 f:=39
 id:=26
 lv:=[0,5,6,9,10,12,91,92]
 lx:=[0,2,3,5,6,9,10,12]
 p:={τ:=[.v (.sl 0)]++pu 4++[.v (.sl 1),.v (.int .i64)]++pu 2++[.v (.sl 2),.v (.int .i64)]++pu 1++[.v (.int .i64)]++pu 78++[.v (.int .i64),.v (.c (i64 0))]++pu 16,saved:=[[]],mem:=[.row Js false,.row Js true,.row Js true]}
 G:=G26 cd
def S15(nb no nm:Nat)(rest group:Int)(b o m:Row):St:=⟨[sl 0 nb]++us 4++[sl 1 no,i64 rest]++us 2++[sl 2 nm,i64 group]++us 98,[[]],[Rb false b,Rb true o,Rb true m]⟩
def Aab(no:Nat)(o:Row):St:=⟨us 5++[sl 0 no]++us 103,[[]],[Rb true o]⟩
def G15(gs:Nat->Nat->Nat->Int->Row->Row->Option Row):List It->(X->St->OD)->OD
 |[.n nb,.n no,.i rest,.n nm,.r _,.r o,.r m],k=>match gs nb no nm rest o m with|some o'=>k (.exit 2) (Aab no o')|none=>none
 |_,_=>none
def l15(gs:Nat->Nat->Nat->Int->Row->Row->Option Row):LoopC where
 f:=39
 id:=15
 lv:=[0,5,6,9,10]
 lx:=[2,3,5]
 p:={τ:=[.v (.sl 0)]++pu 4++[.v (.sl 1),.v (.int .i64)]++pu 2++[.v (.sl 2),.v (.c (i64 0))]++pu 98,saved:=[[]],mem:=[.row Js false,.row Js true,.row Js true]}
 G:=G15 gs
noncomputable def Yp(c7:Nat->Nat->Nat->Int->Bool)(c20:Nat->Int->Int->Int->Int->Bool)(c26:Nat->Int->Int->Bool)(gs:Nat->Nat->Nat->Int->Row->Row->Option Row):Cx:=AP Tryz.prog fns [(87,Fck),(88,fO)] [l7 c7,l20 c20,l26 c26,l15 gs]
section
variable(c7:Nat->Nat->Nat->Int->Bool)(c20:Nat->Int->Int->Int->Int->Bool)(c26:Nat->Int->Int->Bool)(gs:Nat->Nat->Nat->Int->Row->Row->Option Row)
def SX(R:St->OD)(K:X->St->OD)(p nb n n':Nat)(m rest j:Int)(b o:Row):AA (Yp c7 c20 c26 gs) 39 true (inl (Yp c7 c20 c26 gs) (p+4)) (Cm (Yp c7 c20 c26 gs).P 39 7) (S7 nb n n' m rest j b o) (BF [0,5,6,23,24,25] (some [0,2,3,5,6]) R K)=br (j<m) (br (0<=j&&j<(n':Int)) (br (0<=j&&j<(n:Int)) (br (b.I (0+j.toNat) 0 !=0) (br (j<0) none (R (S7 nb n n' m (bOr rest (wi (1*2^min j.toNat 64))) (wi (j+1)) b (o.setI (0+j.toNat) 0 (-1))))) (R (S7 nb n n' m rest (wi (j+1)) b (o.setI (0+j.toNat) 0 (-1))))) none) none) (K (.exit 0) (S7x nb n rest b o)):=k_
def bef(g h:Int):Bool:=BO (BO (GM g h) (wi (0-GM g h))) g !=0
def Aaf(R:St->OD)(K:X->St->OD)(p nb no nm:Nat)(rest group low best g:Int)(b o m:Row):AA (Yp c7 c20 c26 gs) 39 true (inl (Yp c7 c20 c26 gs) (p+4)) (Cm (Yp c7 c20 c26 gs).P 39 20) (WW nb no nm rest group low best g b o m) (BF [0,5,6,9,10,11,12,13] (some [0,2,3,5,6,9,10,12]) R K)=br (g>0) (br (BO g low==0) (R (WW nb no nm rest group low best (BO (wi (g-1)) rest) b o m)) (br (0<=g&&g<(nm:Int)) (br (m.I (0+g.toNat) 0<1) (R (WW nb no nm rest group low best (BO (wi (g-1)) rest) b o m)) (br (0<=GM rest g&&GM rest g<(nm:Int)) (br (0<=rest&&rest<(nm:Int)) (br (m.I (0+(GM rest g).toNat) 0 !=wi (m.I (0+rest.toNat) 0-1)) (R (WW nb no nm rest group low best (BO (wi (g-1)) rest) b o m)) (br (best==0) (R (WW nb no nm rest group low g (BO (wi (g-1)) rest) b o m)) (br (bef g best) (R (WW nb no nm rest group low g (BO (wi (g-1)) rest) b o m)) (R (WW nb no nm rest group low best (BO (wi (g-1)) rest) b o m))))) none) none)) none)) (K (.exit 4) (UB nb no nm rest group best b o m)):=k_
def Aa0(R:St->OD)(K:X->St->OD)(p nb no nm:Nat)(rest group best c j:Int)(b o m:Row):AA (Yp c7 c20 c26 gs) 39 true (inl (Yp c7 c20 c26 gs) (p+4)) (Cm (Yp c7 c20 c26 gs).P 39 26) (S26 nb no nm rest group best c j b o m) (BF [0,5,6,9,10,12,91,92] (some [0,2,3,5,6,9,10,12]) R K)=br (j<c) (br (j<0) none (br (BO (WQ best j) 1==1) (br (0<=j&&j<(no:Int)) (R (S26 nb no nm rest group best c (wi (j+1)) b (o.setI (0+j.toNat) 0 group) m)) none) (R (S26 nb no nm rest group best c (wi (j+1)) b o m)))) (K (.exit 6) (UB nb no nm rest group best b o m)):=k_
def Abq(R:St->OD)(K:X->St->OD)(p nb no nm:Nat)(rest group:Int)(b o m:Row):AA (Yp c7 c20 c26 gs) 39 true (inl (Yp c7 c20 c26 gs) (p+4)) (Cm (Yp c7 c20 c26 gs).P 39 15) (S15 nb no nm rest group b o m) (BF [0,5,6,9,10] (some [2,3,5]) R K)=br (rest !=0) (br (c20 nm rest (BO rest (wi (0-rest))) 0 rest) (br (c26 no (bst m rest.toNat (BO rest (wi (0-rest))).toNat (rest.toNat+1) rest.toNat 0:Nat) nb) (R (S15 nb no nm (GM rest (bst m rest.toNat (BO rest (wi (0-rest))).toNat (rest.toNat+1) rest.toNat 0:Nat)) (wi (group+1)) b (aV (bst m rest.toNat (BO rest (wi (0-rest))).toNat (rest.toNat+1) rest.toNat 0) group no 0 o) m)) none) none) (K (.exit 2) (Aab no o)):=k_
end
def Aac{r g:Nat}(h:g&&&r=g):(r^^^g)&&&r=r^^^g:=by
 apply Nat.eq_of_testBit_eq;intro i;have hi:=congrArg (fun x=>x.testBit i) h;simp only[Nat.testBit_and,Nat.testBit_xor]at hi⊢;cases h1:g.testBit i<;>cases h2:r.testBit i<;>simp_all
def Md{r g:Nat}(h:g&&&r=g):r^^^g<=r:=by rw[<-Aac h];exact Nat.and_le_right
def sub_le{r g:Nat}(h:g&&&r=g):g<=r:=by rw[<-h];exact Nat.and_le_right
def Yi(x:Nat)(hx:x<9223372036854775808):BO (x:Int) (wi (0-(x:Int)))=((x&&&(18446744073709551616-x):Nat):Int):=by
 rw[Vu o_ o_,Int.zero_sub];by_cases h0:x=0
 ·subst h0;rfl
 ·have h1:(BitVec.ofInt 64 (-(x:Int))).toNat=18446744073709551616-x:=by
   rw[BitVec.toNat_ofInt];omega
  unfold BO;have h:x&&&(18446744073709551616-x)<=x:=Nat.and_le_left;rw[BitVec.toNat_and,ofI x o_,h1];exact wrap64 o_ o_
def Acs(g h:Nat)(hg:g<4611686018427387904)(hh:h<4611686018427387904):bef (g:Int) (h:Int)=yX g h:=by
 unfold bef yX;have hx:g^^^h<2^62:=Nat.xor_lt_two_pow o_ o_;have hl:(g^^^h)&&&(18446744073709551616-(g^^^h))<=g^^^h:=Nat.and_le_left;rw[YV g h o_ o_,Yi _ o_,Ri _ g o_ o_];generalize(g^^^h)&&&(18446744073709551616-(g^^^h))&&&g=x;by_cases h0:x=0
 ·subst h0;rfl
 ·have hq:Nat.beq x 0=false:=by
   cases hx:Nat.beq x 0
   ·rfl
   ·exact absurd (AF hx) h0
  rw[hq];exact bne_iff_ne.mpr o_
def in7(_nb n n':Nat)(m:Int):Bool:=n=n'∧m=n∧n<=60
def Pv(nm:Nat)(rest low best g:Int):Bool:=0<=rest∧rest<nm∧nm<=4611686018427387904∧0<=low∧low<4611686018427387904∧best=0∧g=rest
def Oy(no:Nat)(best c:Int):Bool:=0<=best∧best<4611686018427387904∧c=no∧no<=60
def Nr(nb no nm:Nat)(rest:Int)(o m:Row):Option Row:=if 0<=rest∧rest<nm∧nm<=4611686018427387904∧nb=no∧no<=60 then yA m no 64 rest.toNat 0 o else none
noncomputable def C3:Cx:=Yp in7 Pv Oy Nr
def go7{f:St->(X->St->OD)->OD}{lv:List Tmp}{lx:Option (List Tmp)}{nb n:Nat}{b:Row}(hn:n<=60)
  (hr:∀(rest j:Int)(o:Row) R K,f (S7 nb n n n rest j b o) (BF lv lx R K)=br (decide (j<(n:Int))) (br (decide (0<=j)&&decide (j<(n:Int))) (br (decide (0<=j)&&decide (j<(n:Int))) (br (b.I (0+j.toNat) 0 !=0) (br (decide (j<0)) none (R (S7 nb n n n (bOr rest (wi (1*2^min j.toNat 64))) (wi (j+1)) b (o.setI (0+j.toNat) 0 (-1))))) (R (S7 nb n n n rest (wi (j+1)) b (o.setI (0+j.toNat) 0 (-1))))) none) none)
   (K (.exit 0) (S7x nb n rest b o))) (K:X->St->OD):
  ∀(m fu j rest:Nat)(o:Row),j+m=n->m<fu->rest<2^j->rounds lv lx f fu (S7 nb n n n rest j b o) K=K (.exit 0) (S7x nb n (NE b m j (rest,o)).1 b (NE b m j (rest,o)).2)
 |0,fu+1,j,rest,o,h0,h1,h2=>by
  rw[DF,hr,AB (show¬(j:Int)<(n:Int) by omega),Ac];rfl
 |m+1,fu+1,j,rest,o,h0,h1,h2=>by
  have hp:2^j<=2^60:=Nat.pow_le_pow_right d_ o_;have hp2:2^(j+1)=2*2^j:=by rw[Nat.pow_succ,Nat.mul_comm]
  have hor:rest|||2^j<2^(j+1):=Nat.or_lt_two_pow o_ o_;have hj:(decide (0<=(j:Int))&&decide ((j:Int)<(n:Int)))=true:=by simp only[A2,A3];omega
  have h2j:wi (1*2^min j 64)=((2^j:Nat):Int):=by
   rw[Nat.min_eq_left o_,Int.one_mul,show(2:Int)^j=((2^j:Nat):Int) by rw[Int.natCast_pow];rfl];generalize 2^j=x at hp⊢;exact Vu o_ o_
  have hbo:bOr (rest:Int) ((2^j:Nat):Int)=((rest|||2^j:Nat):Int):=Aqq _ _ o_ o_;rw[DF,hr,hj,A4 (show(j:Int)<(n:Int) by omega),Aa,Aa,Aa,A9,AE,Vu (n:=(j:Int)+1) o_ o_,show(j:Int)+1=((j+1:Nat):Int) by omega,h2j,hbo,AB (show¬(j:Int)<0 by omega),Ac];unfold NE rsU;by_cases hb:b.I j 0=0
  ·rw[show(b.I j 0 !=0)=false by simpa using hb,Ac,AL (fun h=>h hb)];exact go7 hn hr K m fu (j+1) rest _ o_ o_ o_
  ·rw[show(b.I j 0 !=0)=true by simpa using hb,Aa,AM hb];exact go7 hn hr K m fu (j+1) (rest|||2^j) _ o_ o_ hor
def An2{f:St->(X->St->OD)->OD}{lv:List Tmp}{lx:Option (List Tmp)}{nb no nm rest low:Nat}{group:Int}{b o m:Row}(hrest:rest<nm)(hnm:nm<=4611686018427387904)(hlow:low<4611686018427387904)
  (hr:∀(best g:Int) R K,f (WW nb no nm rest group low best g b o m) (BF lv lx R K)=
   br (decide (g>0)) (br (BO g low==0) (R (WW nb no nm rest group low best (BO (wi (g-1)) rest) b o m)) (br (decide (0<=g)&&decide (g<(nm:Int))) (br (decide (m.I (0+g.toNat) 0<1)) (R (WW nb no nm rest group low best (BO (wi (g-1)) rest) b o m))
    (br (decide (0<=GM rest g)&&decide (GM rest g<(nm:Int))) (br (decide (0<=(rest:Int))&&decide ((rest:Int)<(nm:Int))) (br (m.I (0+(GM rest g).toNat) 0 !=wi (m.I (0+(rest:Int).toNat) 0-1)) (R (WW nb no nm rest group low best (BO (wi (g-1)) rest) b o m))
     (br (best==0) (R (WW nb no nm rest group low g (BO (wi (g-1)) rest) b o m)) (br (bef g best) (R (WW nb no nm rest group low g (BO (wi (g-1)) rest) b o m)) (R (WW nb no nm rest group low best (BO (wi (g-1)) rest) b o m))))) none) none)) none))
    (K (.exit 4) (UB nb no nm rest group best b o m))) (K:X->St->OD):
  ∀(n fu g best:Nat),g&&&rest=g->best<=rest->g<n->n<=fu->rounds lv lx f fu (WW nb no nm rest group low best g b o m) K=K (.exit 4) (UB nb no nm rest group (bst m rest low n g best:Nat) b o m)
 |n+1,fu+1,g,best,h0,hbest,h1,h2=>by
  have hgs:=sub_le h0;have hxl:=Md h0;rw[DF,hr];unfold bst;by_cases hg:g=0
  ·rw[AM hg,AB (show¬(g:Int)>0 by omega),Ac]
  ·have hnext:BO (wi ((g:Int)-1)) (rest:Int)=(((g-1)&&&rest:Nat):Int):=by
    rw[Vu o_ o_,show(g:Int)-1=((g-1:Nat):Int) by omega];exact Ri _ _ o_ o_
   have hle:(g-1)&&&rest<=g-1:=Nat.and_le_left;have hsub:((g-1)&&&rest)&&&rest=(g-1)&&&rest:=by rw[Nat.and_assoc,Nat.and_self]
   have ih:=fun best' hb'=>An2 hrest hnm hlow hr K n fu ((g-1)&&&rest) best' hsub hb' o_ o_;have hgl:g&&&low<=g:=Nat.and_le_left;have hrng:(decide (0<=(rest:Int))&&decide ((rest:Int)<(nm:Int)))=true:=by simp only[A2,A3];omega
   rw[AL hg,A4 (show(g:Int)>0 by omega),Aa,hnext,Ri g low o_ o_,YV rest g o_ o_,A9,A9,A9,AE,AE,AE,hrng,
    show(decide (0<=(g:Int))&&decide ((g:Int)<(nm:Int)))=true by simp only[A2,A3];omega,
    show(decide (0<=((rest^^^g:Nat):Int))&&decide (((rest^^^g:Nat):Int)<(nm:Int)))=true by simp only[A2,A3];omega,Aa,Aa,Aa,Acs g best o_ o_]
   unfold RI;by_cases c1:g&&&low=0
   ·rw[c1,show(((0:Nat):Int)==0)=true from rfl,Aa,AM (.inl rfl)];exact ih best hbest
   ·rw[show(((g&&&low:Nat):Int)==0)=false from beq_eq_false_iff_ne.mpr o_,Ac];by_cases c2:m.I g 0<1
    ·rw[A4 c2,Aa,AM (.inr (.inl c2))];exact ih best hbest
    ·rw[AB c2,Ac];by_cases c3:m.I (rest^^^g) 0=wi (m.I rest 0-1)
     ·rw[show(m.I (rest^^^g) 0 !=wi (m.I rest 0-1))=false by simpa using c3,Ac,AL (by rintro(h|h|h);exact c1 h;exact c2 h;exact h c3)];by_cases c4:best=0
      ·rw[show((best:Int)==0)=true from beq_iff_eq.mpr o_,Aa,AM (.inl c4)];exact ih g hgs
      ·rw[show((best:Int)==0)=false from beq_eq_false_iff_ne.mpr o_,Ac];cases c5:yX g best
       ·rw[Ac,AL (by rintro(h|h);exact c4 h;exact absurd h d_)];exact ih best hbest
       ·rw[Aa,AM (.inr rfl)];exact ih g hgs
     ·rw[show(m.I (rest^^^g) 0 !=wi (m.I rest 0-1))=true by simpa using c3,Aa,AM (.inr (.inr c3))];exact ih best hbest
def Ak4{f:St->(X->St->OD)->OD}{lv:List Tmp}{lx:Option (List Tmp)}{nb no nm best:Nat}{rest group:Int}{b m:Row}(hb:best<4611686018427387904)(hn:no<=60)
  (hr:∀(j:Int)(o:Row) R K,f (S26 nb no nm rest group best no j b o m) (BF lv lx R K)=br (decide (j<(no:Int))) (br (decide (j<0)) none (br (BO (WQ best j) 1==1) (br (decide (0<=j)&&decide (j<(no:Int))) (R (S26 nb no nm rest group best no (wi (j+1)) b (o.setI (0+j.toNat) 0 group) m)) none) (R (S26 nb no nm rest group best no (wi (j+1)) b o m))))
   (K (.exit 6) (UB nb no nm rest group best b o m))) (K:X->St->OD):
  ∀(k fu j:Nat)(o:Row),j+k=no->k<fu->rounds lv lx f fu (S26 nb no nm rest group best no j b o m) K=K (.exit 6) (UB nb no nm rest group best b (aV best group k j o) m)
 |0,fu+1,j,o,h0,h1=>by
  rw[DF,hr,AB (show¬(j:Int)<(no:Int) by omega),Ac];rfl
 |k+1,fu+1,j,o,h0,h1=>by
  rw[DF,hr,show(decide (0<=(j:Int))&&decide ((j:Int)<(no:Int)))=true by simp only[A2,A3];omega,A4 (show(j:Int)<(no:Int) by omega),Aa,AB (show¬(j:Int)<0 by omega),Ac,Ye best j o_ o_,
   Aa,A9,AE,Vu (n:=(j:Int)+1) o_ o_,show(j:Int)+1=((j+1:Nat):Int) by omega]
  unfold aV;cases hbit:best.testBit j
  ·rw[Ac,AL d_];exact Ak4 hb hn hr K k fu (j+1) o o_ o_
  ·rw[Aa,AM rfl];exact Ak4 hb hn hr K k fu (j+1) _ o_ o_
def Za{m:Row}{rest low:Nat}:∀(n g best:Nat),g&&&rest=g->best&&&rest=best->bst m rest low n g best&&&rest=bst m rest low n g best
 |0,g,best,_,h=>h
 |n+1,g,best,hg,hb=>by
  unfold bst;split
  ·exact hb
  ·refine Za n _ _ (by rw[Nat.and_assoc,Nat.and_self]) ?_;unfold RI;split
   ·exact hb
   ·split
    ·exact hg
    ·exact hb
def Ahw(s:Nat):LD s<=s:=Nat.and_le_left
def Aqp{f:St->(X->St->OD)->OD}{lv:List Tmp}{lx:Option (List Tmp)}{nb no nm:Nat}{b m:Row}(hnm:nm<=4611686018427387904)(hno:nb=no∧no<=60)
  (hr:∀(rest group:Int)(o:Row) R K,f (S15 nb no nm rest group b o m) (BF lv lx R K)=
   br (rest !=0) (br (Pv nm rest (BO rest (wi (0-rest))) 0 rest)
    (br (Oy no (bst m rest.toNat (BO rest (wi (0-rest))).toNat (rest.toNat+1) rest.toNat 0:Nat) nb)
     (R (S15 nb no nm (GM rest (bst m rest.toNat (BO rest (wi (0-rest))).toNat (rest.toNat+1) rest.toNat 0:Nat)) (wi (group+1)) b (aV (bst m rest.toNat (BO rest (wi (0-rest))).toNat (rest.toNat+1) rest.toNat 0) group no 0 o) m)) none) none)
    (K (.exit 2) (Aab no o))) (K:X->St->OD):
  ∀(k fu rest group:Nat)(o o':Row),yA m no k rest group o=some o'->k<fu->rest<nm->group+k<=1000->rounds lv lx f fu (S15 nb no nm rest group b o m) K=K (.exit 2) (Aab no o'):=by
 intro k
 induction k with
 |zero=>
  intro fu rest group o o' h hk _ _;obtain⟨fu,rfl⟩:∃fu',fu=fu'+1:=⟨fu-1,o_⟩;unfold yA at h;split at h
  ·rename_i h0;cases h;rw[DF,hr,h0];rfl
  ·cases h
 |succ k ih=>
  intro fu rest group o o' h hk hrest hgr;obtain⟨fu,rfl⟩:∃fu',fu=fu'+1:=⟨fu-1,o_⟩;unfold yA at h;by_cases h0:rest=0
  ·rw[AM h0]at h;cases h;rw[DF,hr,h0];rfl
  ·rw[AL h0]at h;have hs:=Za (m:=m) (low:=LD rest) (rest+1) rest 0 (Nat.and_self rest) (Nat.zero_and rest);have hl:=Ahw rest;have hle:=sub_le hs;have hxl:=Md hs;rw[DF,hr,show((rest:Int) !=0)=true from bne_iff_ne.mpr o_,Aa,Yi rest o_,show rest&&&(18446744073709551616-rest)=LD rest from rfl,A9,A9,
    show Pv nm rest (LD rest:Nat) 0 rest=true from A4 ⟨o_,o_,hnm,o_,o_,rfl,rfl⟩,Aa]
   generalize bst m rest (LD rest) (rest+1) rest 0=best at*
   rw[show Oy no (best:Nat) nb=true from A4 ⟨o_,o_,o_,hno.2⟩,Aa,YV rest best o_ o_,Vu (n:=(group:Int)+1) o_ o_,show(group:Int)+1=((group+1:Nat):Int) by omega];exact ih fu (rest^^^best) (group+1) _ o' h o_ o_ o_
def oC:Ah C3 (l7 in7):=⟨k_,fun q its k rr h=>by
 show rounds [0,5,6,23,24,25] (some [0,2,3,5,6]) (AA C3 39 true (inl C3 (q+4)) (Cm C3.P 39 7)) 18446744073709551616 (Go.Ev.bst (l7 in7).p its) k=some rr;change G7 in7 its k=some rr at h;unfold G7 at h;split at h
 ·rename_i nb n n' m b o;rcases CY h with⟨h1,h2⟩|⟨_,h2⟩
  ·obtain⟨k1,k2,k3⟩:=AD h1;subst k1;subst k2;rw[<-h2];exact go7 (nb:=nb) (b:=b) k3 (fun rest j o R K=>SX in7 Pv Oy Nr R K q nb n n n rest j b o) k n 18446744073709551616 0 0 o o_ o_ d_
  ·cases h2
 ·cases h⟩
def Ak1:Ah C3 (l20 Pv):=⟨k_,fun q its k rr h=>by
 show rounds [0,5,6,9,10,11,12,13] (some [0,2,3,5,6,9,10,12]) (AA C3 39 true (inl C3 (q+4)) (Cm C3.P 39 20)) 18446744073709551616 (Go.Ev.bst (l20 Pv).p its) k=some rr;change G20 Pv its k=some rr at h;unfold G20 at h;split at h
 ·rename_i nb no rest nm group low best g b o m;rcases CY h with⟨h1,h2⟩|⟨_,h2⟩
  ·obtain⟨k1,k2,k3,k4,k5,k6,k7⟩:=AD h1;obtain⟨rest,rfl⟩:=Int.eq_ofNat_of_zero_le k1;obtain⟨low,rfl⟩:=Int.eq_ofNat_of_zero_le k4;subst k6;subst k7;rw[<-h2,A9,A9];exact An2 (nb:=nb) (no:=no) (group:=group) (b:=b) (o:=o) (m:=m) o_ k3 o_ (fun best g R K=>Aaf in7 Pv Oy Nr R K q nb no nm rest group low best g b o m) k (rest+1) 18446744073709551616 rest 0 (Nat.and_self rest) o_ o_ o_
  ·cases h2
 ·cases h⟩
def Aiv:Ah C3 (l26 Oy):=⟨k_,fun q its k rr h=>by
 show rounds [0,5,6,9,10,12,91,92] (some [0,2,3,5,6,9,10,12]) (AA C3 39 true (inl C3 (q+4)) (Cm C3.P 39 26)) 18446744073709551616 (Go.Ev.bst (l26 Oy).p its) k=some rr;change G26 Oy its k=some rr at h;unfold G26 at h;split at h
 ·rename_i nb no rest nm group best c b o m;rcases CY h with⟨h1,h2⟩|⟨_,h2⟩
  ·obtain⟨k1,k2,k3,k4⟩:=AD h1;obtain⟨best,rfl⟩:=Int.eq_ofNat_of_zero_le k1;subst k3;rw[<-h2,A9];exact Ak4 (nb:=nb) (nm:=nm) (rest:=rest) (group:=group) (b:=b) (m:=m) o_ k4 (fun j o R K=>Aa0 in7 Pv Oy Nr R K q nb no nm rest group best no j b o m) k no 18446744073709551616 0 o o_ o_
  ·cases h2
 ·cases h⟩
def Am3:Ah C3 (l15 Nr):=⟨k_,fun q its k rr h=>by
 show rounds [0,5,6,9,10] (some [2,3,5]) (AA C3 39 true (inl C3 (q+4)) (Cm C3.P 39 15)) 18446744073709551616 (Go.Ev.bst (l15 Nr).p its) k=some rr;change G15 Nr its k=some rr at h;unfold G15 at h;split at h
 ·rename_i nb no rest nm b o m;split at h
  ·rename_i o' hgs;unfold Nr at hgs;split at hgs
   ·rename_i hc;obtain⟨k1,k2,k3,k4,k5⟩:=hc;obtain⟨rest,rfl⟩:=Int.eq_ofNat_of_zero_le k1;rw[<-h];exact Aqp (b:=b) (m:=m) k3 ⟨k4,k5⟩ (fun rest group o R K=>Abq in7 Pv Oy Nr R K q nb no nm rest group b o m) k 64 18446744073709551616 rest 0 o o' (by rw[A9]at hgs;exact hgs) o_ o_ o_
   ·cases hgs
  ·cases h
 ·cases h⟩
def Aof:LH C3 Wt:=BA enter mixed (Aw (den_ck.at _)<|Aw xQ AX) (Aw oC<|Aw Ak1<|Aw Aiv<|Aw Am3 AX)
def Abr(c7:Nat->Nat->Nat->Int->Bool)(c20:Nat->Int->Int->Int->Int->Bool)(c26:Nat->Int->Int->Bool)(gs:Nat->Nat->Nat->Int->Row->Row->Option Row)(b:Row):BH (Yp c7 c20 c26 gs) 6 39 [.slice Js b]=br (ckE (w_ b 0 b.n) !=0) (some [.slice Ar Row.nil,.v (i64 (ckE (w_ b 0 b.n)))]) (br (0<=(b.n:Int)&&(b.n:Int)<=(b.n:Int)&&(b.n:Int)<=100000000000) (br (c7 b.n (b.n:Int).toNat b.n b.n) (br ((w_ b 0 b.n).n<=20) (match gs b.n (b.n:Int).toNat (F6 (w_ b 0 b.n)).n (NE b (b.n:Int).toNat 0 (0,Row.zeros (b.n:Int).toNat)).1 (NE b (b.n:Int).toNat 0 (0,Row.zeros (b.n:Int).toNat)).2 (F6 (w_ b 0 b.n))with|some o'=>some [.slice Js (w_ o' 0 (b.n:Int).toNat),.v (i64 0)]|none=>none) none) none) none):=k_
def U5{b:Row}(h:0<b.n):w_ b 0 b.n=b:=by
 cases b with
 |nil=>cases h
 |mk n I B S R=>rfl
def Acr(b:Row):ckE (w_ b 0 b.n)=ckE b:=by
 by_cases h:0<b.n
 ·rw[U5 h]
 ·have h0:b.n=0:=o_;have h1:(w_ b 0 b.n).n=0:=h0;unfold ckE;rw[AM o_,AM o_]
def X5(b:Row):∀(m j:Nat)(x:Nat×Row),x.1<2^j->(NE b m j x).1<2^(j+m)
 |0,j,x,h=>h
 |m+1,j,x,h=>by
  unfold NE;rw[show j+(m+1)=(j+1)+m by omega];refine X5 b m (j+1) _ ?_;have hp2:2^(j+1)=2*2^j:=by rw[Nat.pow_succ,Nat.mul_comm]
  unfold rsU;dsimp only;split
  ·exact Nat.or_lt_two_pow o_ o_
  ·omega
def gpO(b:Row):Option Row:=yA (F6 b) b.n 64 (NE b b.n 0 (0,Row.zeros b.n)).1 0 (NE b b.n 0 (0,Row.zeros b.n)).2
def gpC(b:Row):Bool:=ckE b !=0||(gpO b).isSome
def gpR(b:Row):Row:=if ckE b≠0 then .nil else match gpO b with|some o=>w_ o 0 b.n|none=>.nil
def YY:FD
 |[.slice [.int .i64] b]=>some (gpC b,[.slice Js (gpR b),.v (i64 (ckE b))])
 |_=>none
def den_groups:DenW Tryz.prog Wt 39 YY:=CO Aof fun ds rs h=>by
 unfold YY at h;split at h
 ·rename_i b;simp only[A5,A6]at h;obtain⟨hc,rfl⟩:=h;refine(Abr in7 Pv Oy Nr b).trans ?_;rw[Acr];unfold gpR;by_cases hk:ckE b=0
  ·have hn:1<=b.n∧b.n<=10:=by
    unfold ckE at hk;split at hk
    ·cases hk
    ·omega
   have hp:2^b.n<=2^10:=Nat.pow_le_pow_right d_ hn.2;have hlt:=X5 b b.n 0 (0,Row.zeros b.n) (show 0<2^0 by decide);rw[AE]at hlt;unfold gpC at hc;rw[show(ckE b !=0)=false by simpa using hk,Bool.false_or]at hc;rw[show(ckE b !=0)=false by simpa using hk,Ac,U5 o_,A9,show(decide (0<=(b.n:Int))&&decide ((b.n:Int)<=(b.n:Int))&&decide ((b.n:Int)<=100000000000))=true by simp only[A2,A3];omega,Aa,
    show in7 b.n b.n b.n b.n=true from A4 ⟨rfl,rfl,o_⟩,Aa,A4 (show b.n<=20 by omega),Aa,AL (fun h=>h hk)]
   have hm:(F6 b).n=2^b.n:=rfl;have hg:Nr b.n b.n (F6 b).n (NE b b.n 0 (0,Row.zeros b.n)).1 (NE b b.n 0 (0,Row.zeros b.n)).2 (F6 b)=gpO b:=by
    unfold Nr gpO;rw[hm,AM ⟨o_,o_,o_,rfl,o_⟩,A9]
   rw[hg];cases ho:gpO b with
   |none=>rw[ho]at hc;cases hc
   |some o=>rw[hk]
  ·rw[show(ckE b !=0)=true by simpa using hk,Aa,AM hk];rfl
 ·cases h
end Go.Proofs.YtnljjjghpgdmoaaGreatDoor.Ld
namespace Go.Proofs.YtnljjjghpgdmoaaGreatDoor.Ld.Lg
open Go.Ev
def ks3:List CK:=Ht
def pay(n:Int)(r:Row):List D:=[.v (i64 n),.slice ks3 r]
def isB(n p:Int):Bool:=decide (p>=0)&&decide (p<n)
def bad(n:Int)(r:Row)(j:Nat):Bool:= !isB n (r.I j 0)|| !isB n (r.I j 1)||r.I j 0==r.I j 1||decide (r.I j 2<1)||decide (r.I j 2>1000000000)
def partiesB(n:Int):Bool:=decide (n>=1)&&decide (n<=10)
def chk(n:Int)(r:Row):Int:=bif partiesB n then(bif (r.n:Int)>200 then 4 else bif Ag (bad n r) r.n 0 then 8 else 0)else 2
def S7(n:Int)(len:Nat)(l j:Int)(r:Row):St:={τ:=[i64 n]++us 15++[S_ 0 0 len,i64 l,i64 j]++us 29,saved:=[[]],mem:=[some (.row ks3 false r)]}
def S7r:St:={τ:=us 4++[i64 8]++us 43,saved:=[[]],mem:=[]}
def S7x:St:={τ:=us 48,saved:=[[]],mem:=[]}
def G7:List It->(X->St->OD)->OD
 |[.i n,.n len,.i l,.r r],k=>br (decide (l=(len:Int))&&decide (len<=1000)) (br (Ag (bad n r) len 0) (k .ret S7r) (k (.exit 0) S7x)) none
 |_,_=>none
def l7:LoopC where
 f:=40
 id:=7
 lv:=[0,16,17,18]
 lx:=[4]
 p:={τ:=[.v (.int .i64)]++pu 15++[.v (.sl 0),.v (.int .i64),.v (.c (i64 0))]++pu 29,saved:=[[]],mem:=[.row ks3 false]}
 G:=G7
noncomputable def C7:Cx:=AP Tryz.prog fns [] [l7]
def SX(d:Nat)(R:St->OD)(K:X->St->OD)(n:Int)(len:Nat)(l:Int)(j:Nat)(r:Row):AA C7 40 true (inl C7 (d+4)) (Cm C7.P 40 7) (S7 n len l j r) (BF [0,16,17,18] (some [4]) R K)=br ((j:Int)<l) (br (0<=(j:Int)&&(j:Int)<len) (br (r.I (0+j) 0>=0) (br (!decide (r.I (0+j) 0<n)) (K .ret S7r) (br (r.I (0+j) 1>=0) (br (!decide (r.I (0+j) 1<n)) (K .ret S7r) (br (r.I (0+j) 0==r.I (0+j) 1) (K .ret S7r) (br (r.I (0+j) 2>=1) (br (!decide (r.I (0+j) 2<=1000000000)) (K .ret S7r) (R (S7 n len l (IntKind.i64.wrap (j+1)) r))) (K .ret S7r)))) (K .ret S7r))) (K .ret S7r)) none) (K (.exit 0) S7x):=k_
def uQ{A:Type}(n:Int)(r:Row)(j:Nat)(x y:Option A):
  (br (decide (r.I (0+j) 0>=0)) (br (!decide (r.I (0+j) 0<n)) x
    (br (decide (r.I (0+j) 1>=0)) (br (!decide (r.I (0+j) 1<n)) x
     (br (r.I (0+j) 0==r.I (0+j) 1) x
      (br (decide (r.I (0+j) 2>=1)) (br (!decide (r.I (0+j) 2<=1000000000)) x y) x))) x)) x)=br (bad n r j) x y:=by
 rw[AE];have e1:decide (r.I j 2<1)= !decide (r.I j 2>=1):=by rw[Bool.eq_iff_iff];simp only[Bool.not_eq_true',A3,decide_eq_false_iff_not];omega
 have e2:decide (r.I j 2>1000000000)= !decide (r.I j 2<=1000000000):=by rw[Bool.eq_iff_iff];simp only[Bool.not_eq_true',A3,decide_eq_false_iff_not];omega
 unfold bad isB;rw[e1,e2];cases decide (r.I j 0>=0)<;>cases decide (r.I j 0<n)<;>cases decide (r.I j 1>=0)<;>cases decide (r.I j 1<n)<;>cases(r.I j 0==r.I j 1)<;>cases decide (r.I j 2>=1)<;>cases decide (r.I j 2<=1000000000)<;>rfl
def oC:Ah C7 l7:=⟨k_,fun d its k rr h=>by
 show rounds [0,16,17,18] (some [4]) (AA C7 40 true (inl C7 (d+4)) (Cm C7.P 40 7)) 18446744073709551616 (Go.Ev.bst l7.p its) k=some rr;change G7 its k=some rr at h;unfold G7 at h;split at h
 ·rename_i n len l r;rcases CY h with⟨h1,h2⟩|⟨_,h2⟩
  ·simp only[A2,A3]at h1;obtain⟨rfl,h1⟩:=h1;rw[<-h2];exact Np (S:=fun j=>S7 n len len j r) (len:=len) (bad:=bad n r) (Kb:=fun K=>K .ret S7r) (Ke:=fun K=>K (.exit 0) S7x)
    (fun j hj R K=>by
     rw[SX,wrap64 o_ o_,show decide ((j:Int)<(len:Int))=true by simpa using hj,show(decide (0<=(j:Int)))=true by simp];simp only[Bool.and_true,Aa];exact uQ n r j _ _)
    (fun R K=>by
     rw[SX,show decide ((len:Int)<(len:Int))=false by simp];rfl) k len 0 o_ _ o_
  ·cases h2
 ·cases h⟩
def tK:Be C7:=Aj enter mixed AX (fun l h=>by
 simp only[List.mem_singleton]at h;subst h;exact oC)
def F7:FD
 |[.v (.int .i64 n),.slice [.int .i64,.int .i64,.int .i64] r]=>some (true,[.v (i64 (chk n r))])
 |_=>none
def t7(n:Int)(r:Row):BH C7 6 40 (pay n r)=br (n<1) (some [.v (i64 2)]) (br (n>10) (some [.v (i64 2)]) (br ((r.n:Int)>200) (some [.v (i64 4)]) (br ((r.n:Int)=(r.n:Int)&&r.n<=1000) (br (Ag (bad n r) r.n 0) (some [.v (i64 8)]) (some [.v (i64 0)])) none))):=k_
def qW(n:Int)(r:Row){A:Type}(g:Int->Option A):(br (decide (n<1)) (g 2) (br (decide (n>10)) (g 2) (br (decide ((r.n:Int)>200)) (g 4)
   (br (decide ((r.n:Int)=(r.n:Int))&&decide (r.n<=1000)) (br (Ag (bad n r) r.n 0) (g 8) (g 0)) none))))=g (chk n r):=by
 have e1:decide (n<1)= !decide (n>=1):=by rw[Bool.eq_iff_iff];simp only[Bool.not_eq_true',A3,decide_eq_false_iff_not];omega
 have e2:decide (n>10)= !decide (n<=10):=by rw[Bool.eq_iff_iff];simp only[Bool.not_eq_true',A3,decide_eq_false_iff_not];omega
 have e3:decide ((r.n:Int)>200)=false->(decide ((r.n:Int)=(r.n:Int))&&decide (r.n<=1000))=true:=by intro h;simp at h⊢;omega
 unfold chk partiesB;rw[e1,e2];cases h:decide ((r.n:Int)>200)
 ·rw[e3 h];cases decide (n>=1)<;>cases decide (n<=10)<;>cases Ag (bad n r) r.n 0<;>rfl
 ·cases decide (n>=1)<;>cases decide (n<=10)<;>rfl
def den7:Den Tryz.prog 40 F7:=Af tK fun ds rs h=>by
 unfold F7 at h;split at h
 ·rename_i n r;cases h;exact(t7 n r).trans (qW n r fun e=>some [D.v (i64 e)])
 ·cases h
end Go.Proofs.YtnljjjghpgdmoaaGreatDoor.Ld.Lg
namespace Go.Proofs
open Go.Shelf
def Tryz.laysM171_ren:Go.Shelf.Ren:=⟨fun|171=>65|243=>111|246=>144|283=>173|284=>174|285=>175|286=>176|129=>195|317=>194|318=>196|319=>197|320=>131|337=>167|338=>168|n=>n,fun|3=>3|9=>9|2=>2|4=>4|171=>240|0=>0|53=>189|37=>64|5=>5|173=>242|212=>261|51=>233|20=>20|213=>262|46=>196|232=>258|233=>259|n=>n,fun|17=>3|18=>1|19=>2|n=>n⟩
def Tryz.laysM171:Go.Proofs.LaysM.n171 Tryz.prog Tryz.laysM171_ren:={
 mixed:=k_
 f129:=Tryz.func195.trans Bv
 f171:=Tryz.func65.trans Bv
 f243:=Tryz.func111.trans Bv
 f246:=Tryz.func144.trans Bv
 f283:=Tryz.func173.trans Bv
 f284:=Tryz.func174.trans Bv
 f285:=Tryz.func175.trans Bv
 f286:=Tryz.func176.trans Bv
 f317:=Tryz.func194.trans Bv
 f318:=Tryz.func196.trans Bv
 f319:=Tryz.func197.trans Bv
 f320:=Tryz.func131.trans Bv
 f337:=Tryz.func167.trans Bv
 f338:=Tryz.func168.trans Bv
 t0:=Tryz.underlying0
 a0:=Tryz.isAgg0
 z0:=Tryz.sizeOf0
 v0:=Tryz.zeroValue0
 t2:=Tryz.underlying2
 a2:=Tryz.isAgg2
 z2:=Tryz.sizeOf2
 v2:=Tryz.zeroValue2
 t3:=Tryz.underlying3
 a3:=Tryz.isAgg3
 z3:=Tryz.sizeOf3
 v3:=Tryz.zeroValue3
 t4:=Tryz.underlying4
 a4:=Tryz.isAgg4
 z4:=Tryz.sizeOf4
 v4:=Tryz.zeroValue4
 t5:=Tryz.underlying5
 a5:=Tryz.isAgg5
 z5:=Tryz.sizeOf5
 v5:=Tryz.zeroValue5
 t9:=Tryz.underlying9
 a9:=Tryz.isAgg9
 z9:=Tryz.sizeOf9
 v9:=Tryz.zeroValue9
 t20:=Tryz.underlying20
 a20:=Tryz.isAgg20
 z20:=Tryz.sizeOf20
 v20:=Tryz.zeroValue20
 t37:=Tryz.underlying64
 a37:=Tryz.isAgg64
 z37:=Tryz.sizeOf64
 v37:=Tryz.zeroValue64
 t46:=Tryz.underlying196
 a46:=Tryz.isAgg196
 z46:=Tryz.sizeOf196
 v46:=Tryz.zeroValue196
 t51:=Tryz.underlying233
 a51:=Tryz.isAgg233
 z51:=Tryz.sizeOf233
 v51:=Tryz.zeroValue233
 t53:=Tryz.underlying189
 a53:=Tryz.isAgg189
 z53:=Tryz.sizeOf189
 v53:=Tryz.zeroValue189
 t171:=Tryz.underlying240
 a171:=Tryz.isAgg240
 z171:=Tryz.sizeOf240
 v171:=Tryz.zeroValue240
 t173:=Tryz.underlying242
 a173:=Tryz.isAgg242
 z173:=Tryz.sizeOf242
 v173:=Tryz.zeroValue242
 t212:=Tryz.underlying261
 a212:=Tryz.isAgg261
 z212:=Tryz.sizeOf261
 v212:=Tryz.zeroValue261
 t213:=Tryz.underlying262
 a213:=Tryz.isAgg262
 z213:=Tryz.sizeOf262
 t232:=Tryz.underlying258
 a232:=Tryz.isAgg258
 z232:=Tryz.sizeOf258
 v232:=Tryz.zeroValue258
 t233:=Tryz.underlying259
 a233:=Tryz.isAgg259
 z233:=Tryz.sizeOf259
 v233:=Tryz.zeroValue259
 g17:=k_
 g18:=k_
 g19:=k_
 i0:=k_
 i2:=k_
 i3:=k_
 i4:=k_
 i5:=k_
 i9:=k_
 i20:=k_
 i37:=k_
 i46:=k_
 i51:=k_
 i53:=k_
 i171:=k_
 i173:=k_
 i212:=k_
 i232:=k_
 i233:=k_
 m17:=k_
 m18:=k_
 m19:=by kernel_rfl}
open Go.RowKit Go.Sort Go.Lib in
def Tryz.strconv_Itoa(n:Int)(h0: -9223372036854775808<=n)(h1:n<=9223372036854775807)(w:World)(htab:Lib.TabIs Tryz.prog w "internal/strconv.uint64pow10" .u64 Lib.pow10Tab):
  Calls Tryz.prog 65 #[.int .i64 n] w fun e w'=>e=.returned (.string ⟨(Lib.itoa n).toArray⟩)∧∃k os,w'=grow (w.drewN k) os:=Any.strconv_Itoa Tryz.laysM171 n h0 h1 w htab
def Tryz.laysM173_ren:Go.Shelf.Ren:=⟨fun|173=>143|246=>144|283=>173|284=>174|285=>175|286=>176|129=>195|317=>194|318=>196|319=>197|320=>131|337=>167|338=>168|n=>n,fun|2=>2|3=>3|9=>9|4=>4|171=>240|0=>0|53=>189|37=>64|5=>5|173=>242|212=>261|51=>233|20=>20|213=>262|46=>196|232=>258|233=>259|n=>n,fun|17=>3|18=>1|19=>2|n=>n⟩
def Tryz.laysM173:Go.Proofs.LaysM.n173 Tryz.prog Tryz.laysM173_ren:={
 mixed:=k_
 f129:=Tryz.func195.trans Bv
 f173:=Tryz.func143.trans Bv
 f246:=Tryz.func144.trans Bv
 f283:=Tryz.func173.trans Bv
 f284:=Tryz.func174.trans Bv
 f285:=Tryz.func175.trans Bv
 f286:=Tryz.func176.trans Bv
 f317:=Tryz.func194.trans Bv
 f318:=Tryz.func196.trans Bv
 f319:=Tryz.func197.trans Bv
 f320:=Tryz.func131.trans Bv
 f337:=Tryz.func167.trans Bv
 f338:=Tryz.func168.trans Bv
 t0:=Tryz.underlying0
 a0:=Tryz.isAgg0
 z0:=Tryz.sizeOf0
 v0:=Tryz.zeroValue0
 t2:=Tryz.underlying2
 a2:=Tryz.isAgg2
 z2:=Tryz.sizeOf2
 v2:=Tryz.zeroValue2
 t3:=Tryz.underlying3
 a3:=Tryz.isAgg3
 z3:=Tryz.sizeOf3
 v3:=Tryz.zeroValue3
 t4:=Tryz.underlying4
 a4:=Tryz.isAgg4
 z4:=Tryz.sizeOf4
 v4:=Tryz.zeroValue4
 t5:=Tryz.underlying5
 a5:=Tryz.isAgg5
 z5:=Tryz.sizeOf5
 v5:=Tryz.zeroValue5
 t9:=Tryz.underlying9
 a9:=Tryz.isAgg9
 z9:=Tryz.sizeOf9
 v9:=Tryz.zeroValue9
 t20:=Tryz.underlying20
 a20:=Tryz.isAgg20
 z20:=Tryz.sizeOf20
 v20:=Tryz.zeroValue20
 t37:=Tryz.underlying64
 a37:=Tryz.isAgg64
 z37:=Tryz.sizeOf64
 v37:=Tryz.zeroValue64
 t46:=Tryz.underlying196
 a46:=Tryz.isAgg196
 z46:=Tryz.sizeOf196
 v46:=Tryz.zeroValue196
 t51:=Tryz.underlying233
 a51:=Tryz.isAgg233
 z51:=Tryz.sizeOf233
 v51:=Tryz.zeroValue233
 t53:=Tryz.underlying189
 a53:=Tryz.isAgg189
 z53:=Tryz.sizeOf189
 v53:=Tryz.zeroValue189
 t171:=Tryz.underlying240
 a171:=Tryz.isAgg240
 z171:=Tryz.sizeOf240
 v171:=Tryz.zeroValue240
 t173:=Tryz.underlying242
 a173:=Tryz.isAgg242
 z173:=Tryz.sizeOf242
 v173:=Tryz.zeroValue242
 t212:=Tryz.underlying261
 a212:=Tryz.isAgg261
 z212:=Tryz.sizeOf261
 v212:=Tryz.zeroValue261
 t213:=Tryz.underlying262
 a213:=Tryz.isAgg262
 z213:=Tryz.sizeOf262
 t232:=Tryz.underlying258
 a232:=Tryz.isAgg258
 z232:=Tryz.sizeOf258
 v232:=Tryz.zeroValue258
 t233:=Tryz.underlying259
 a233:=Tryz.isAgg259
 z233:=Tryz.sizeOf259
 v233:=Tryz.zeroValue259
 g17:=k_
 g18:=k_
 g19:=k_
 i0:=k_
 i2:=k_
 i3:=k_
 i4:=k_
 i5:=k_
 i9:=k_
 i20:=k_
 i37:=k_
 i46:=k_
 i51:=k_
 i53:=k_
 i171:=k_
 i173:=k_
 i212:=k_
 i232:=k_
 i233:=k_
 m17:=k_
 m18:=k_
 m19:=by kernel_rfl}
open Go.RowKit Go.Sort Go.Lib in
def Tryz.strconv_FormatInt_10(n:Int)(h0: -9223372036854775808<=n)(h1:n<=9223372036854775807)(w:World)(htab:Lib.TabIs Tryz.prog w "internal/strconv.uint64pow10" .u64 Lib.pow10Tab):
  Calls Tryz.prog 143 #[.int .i64 n,.int .i64 10] w fun e w'=>e=.returned (.string ⟨(Lib.itoa n).toArray⟩)∧∃k os,w'=grow (w.drewN k) os:=Any.strconv_FormatInt_10 Tryz.laysM173 n h0 h1 w htab
def Tryz.laysC172_ren:Go.Shelf.Ren:=⟨fun|172=>116|244=>154|245=>155|247=>183|279=>184|280=>185|281=>186|282=>187|287=>199|316=>200|171=>65|205=>201|321=>205|322=>206|243=>111|246=>144|283=>173|284=>174|285=>175|286=>176|129=>195|317=>194|318=>196|319=>197|320=>131|337=>167|338=>168|n=>n,fun|9=>9|3=>3|75=>70|76=>71|4=>4|5=>5|167=>251|37=>64|0=>0|85=>249|2=>2|168=>252|53=>189|175=>263|46=>196|210=>267|127=>127|145=>279|143=>277|21=>21|171=>240|173=>242|212=>261|51=>233|20=>20|213=>262|232=>258|233=>259|80=>80|n=>n,fun|15=>4|16=>5|17=>3|18=>1|19=>2|n=>n⟩
def Tryz.laysC172:Go.Proofs.LaysC.n172 Tryz.prog Tryz.laysC172_ren:={
 mixed:=k_
 f129:=Tryz.func195.trans Bv
 f171:=Tryz.func65.trans Bv
 f172:=Tryz.func116.trans Bv
 f205:=Tryz.func201.trans Bv
 f243:=Tryz.func111.trans Bv
 f244:=Tryz.func154.trans Bv
 f245:=Tryz.func155.trans Bv
 f246:=Tryz.func144.trans Bv
 f247:=Tryz.func183.trans Bv
 f279:=Tryz.func184.trans Bv
 f280:=Tryz.func185.trans Bv
 f281:=Tryz.func186.trans Bv
 f282:=Tryz.func187.trans Bv
 f283:=Tryz.func173.trans Bv
 f284:=Tryz.func174.trans Bv
 f285:=Tryz.func175.trans Bv
 f286:=Tryz.func176.trans Bv
 f287:=Tryz.func199.trans Bv
 f316:=Tryz.func200.trans Bv
 f317:=Tryz.func194.trans Bv
 f318:=Tryz.func196.trans Bv
 f319:=Tryz.func197.trans Bv
 f320:=Tryz.func131.trans Bv
 f321:=Tryz.func205.trans Bv
 f322:=Tryz.func206.trans Bv
 f337:=Tryz.func167.trans Bv
 f338:=Tryz.func168.trans Bv
 t0:=Tryz.underlying0
 a0:=Tryz.isAgg0
 z0:=Tryz.sizeOf0
 v0:=Tryz.zeroValue0
 t2:=Tryz.underlying2
 a2:=Tryz.isAgg2
 z2:=Tryz.sizeOf2
 v2:=Tryz.zeroValue2
 t3:=Tryz.underlying3
 a3:=Tryz.isAgg3
 z3:=Tryz.sizeOf3
 v3:=Tryz.zeroValue3
 t4:=Tryz.underlying4
 a4:=Tryz.isAgg4
 z4:=Tryz.sizeOf4
 v4:=Tryz.zeroValue4
 t5:=Tryz.underlying5
 a5:=Tryz.isAgg5
 z5:=Tryz.sizeOf5
 v5:=Tryz.zeroValue5
 t9:=Tryz.underlying9
 a9:=Tryz.isAgg9
 z9:=Tryz.sizeOf9
 v9:=Tryz.zeroValue9
 t20:=Tryz.underlying20
 a20:=Tryz.isAgg20
 z20:=Tryz.sizeOf20
 v20:=Tryz.zeroValue20
 t21:=Tryz.underlying21
 a21:=Tryz.isAgg21
 z21:=Tryz.sizeOf21
 v21:=Tryz.zeroValue21
 t37:=Tryz.underlying64
 a37:=Tryz.isAgg64
 z37:=Tryz.sizeOf64
 v37:=Tryz.zeroValue64
 t46:=Tryz.underlying196
 a46:=Tryz.isAgg196
 z46:=Tryz.sizeOf196
 v46:=Tryz.zeroValue196
 t51:=Tryz.underlying233
 a51:=Tryz.isAgg233
 z51:=Tryz.sizeOf233
 v51:=Tryz.zeroValue233
 t53:=Tryz.underlying189
 a53:=Tryz.isAgg189
 z53:=Tryz.sizeOf189
 v53:=Tryz.zeroValue189
 t75:=Tryz.underlying70
 a75:=Tryz.isAgg70
 z75:=Tryz.sizeOf70
 v75:=Tryz.zeroValue70
 t76:=Tryz.underlying71
 a76:=Tryz.isAgg71
 z76:=Tryz.sizeOf71
 v76:=Tryz.zeroValue71
 t85:=Tryz.underlying249
 a85:=Tryz.isAgg249
 z85:=Tryz.sizeOf249
 v85:=Tryz.zeroValue249
 t127:=Tryz.underlying127
 a127:=Tryz.isAgg127
 z127:=Tryz.sizeOf127
 v127:=Tryz.zeroValue127
 t143:=Tryz.underlying277
 a143:=Tryz.isAgg277
 z143:=Tryz.sizeOf277
 v143:=Tryz.zeroValue277
 t145:=Tryz.underlying279
 a145:=Tryz.isAgg279
 z145:=Tryz.sizeOf279
 v145:=Tryz.zeroValue279
 t167:=Tryz.underlying251
 a167:=Tryz.isAgg251
 z167:=Tryz.sizeOf251
 v167:=Tryz.zeroValue251
 t168:=Tryz.underlying252
 a168:=Tryz.isAgg252
 z168:=Tryz.sizeOf252
 v168:=Tryz.zeroValue252
 t171:=Tryz.underlying240
 a171:=Tryz.isAgg240
 z171:=Tryz.sizeOf240
 v171:=Tryz.zeroValue240
 t173:=Tryz.underlying242
 a173:=Tryz.isAgg242
 z173:=Tryz.sizeOf242
 v173:=Tryz.zeroValue242
 t175:=Tryz.underlying263
 a175:=Tryz.isAgg263
 z175:=Tryz.sizeOf263
 v175:=Tryz.zeroValue263
 t210:=Tryz.underlying267
 a210:=Tryz.isAgg267
 z210:=Tryz.sizeOf267
 v210:=Tryz.zeroValue267
 t212:=Tryz.underlying261
 a212:=Tryz.isAgg261
 z212:=Tryz.sizeOf261
 v212:=Tryz.zeroValue261
 t213:=Tryz.underlying262
 a213:=Tryz.isAgg262
 z213:=Tryz.sizeOf262
 t232:=Tryz.underlying258
 a232:=Tryz.isAgg258
 z232:=Tryz.sizeOf258
 v232:=Tryz.zeroValue258
 t233:=Tryz.underlying259
 a233:=Tryz.isAgg259
 z233:=Tryz.sizeOf259
 v233:=Tryz.zeroValue259
 g15:=k_
 g16:=k_
 g17:=k_
 g18:=k_
 g19:=k_
 t80:=Tryz.underlying80
 a80:=Tryz.isAgg80
 z80:=Tryz.sizeOf80
 v80:=Tryz.zeroValue80
 i0:=k_
 i2:=k_
 i3:=k_
 i4:=k_
 i5:=k_
 i9:=k_
 i20:=k_
 i21:=k_
 i37:=k_
 i46:=k_
 i51:=k_
 i53:=k_
 i75:=k_
 i76:=k_
 i80:=k_
 i85:=k_
 i127:=k_
 i143:=k_
 i145:=k_
 i167:=k_
 i168:=k_
 i171:=k_
 i173:=k_
 i175:=k_
 i210:=k_
 i212:=k_
 i232:=k_
 i233:=k_
 m15:=k_
 m16:=k_
 m17:=k_
 m18:=k_
 m19:=k_
 c0:=k_
 c2:=k_
 c3:=k_
 c4:=k_
 c5:=k_
 c9:=k_
 c20:=k_
 c21:=k_
 c37:=k_
 c46:=k_
 c51:=k_
 c53:=k_
 c75:=k_
 c76:=k_
 c80:=k_
 c85:=k_
 c127:=k_
 c143:=k_
 c145:=k_
 c167:=k_
 c168:=k_
 c171:=k_
 c173:=k_
 c175:=k_
 c210:=k_
 c212:=k_
 c213:=k_
 c232:=k_
 c233:=by kernel_rfl}
open Go.RowKit in
def Tryz.strconv_Atoi_ok(s:Y_)(hmax:s.size<=9223372036854775806)(v:Int)(h:Lib.atoiAll s.data.toList=.ok v)(w:World):
  Calls Tryz.prog 116 #[.string s] w fun e w'=>e=.returned (.tuple #[.int .i64 v,.nilIface])∧(w'=w∨∃t,w'=Lib.bytesWorld w 5 t):=Any.strconv_Atoi_ok Tryz.laysC172 s hmax v h w
open Go.RowKit in
def Tryz.strconv_Atoi_syntax(s:Y_)(hlim:s.size<=281474976710656)(h:Lib.atoiAll s.data.toList=Go.Lib.NumEnd.syntax)(ev:Value)(w:World)(hv:w.cell? ⟨4,0,none⟩=some ev)(hev:ev=.nilIface∨∃te pe,ev=.iface te pe):
  Calls Tryz.prog 116 #[.string s] w fun e w'=>∃N,e=.returned (.tuple #[.int .i64 0,.iface 252 (.pointer (some ⟨N,0,none⟩))])∧w.heap.size<=N∧w'.heap[N]? =some (.cells #[.string ⟨#[65,116,111,105]⟩,.string s,ev] 267 (0,0))∧Below w.heap.size w w':=Any.strconv_Atoi_syntax Tryz.laysC172 s hlim h ev w hv hev
open Go.RowKit in
def Tryz.strconv_Atoi_range(s:Y_)(hlim:s.size<=281474976710656)(h:Lib.atoiAll s.data.toList=.range)(ev:Value)(w:World)(hv:w.cell? ⟨5,0,none⟩=some ev)(hev:ev=.nilIface∨∃te pe,ev=.iface te pe):
  Calls Tryz.prog 116 #[.string s] w fun e w'=>∃N,e=.returned (.tuple #[.int .i64 (Lib.atoiSat s.data.toList),.iface 252 (.pointer (some ⟨N,0,none⟩))])∧w.heap.size<=N∧w'.heap[N]? =some (.cells #[.string ⟨#[65,116,111,105]⟩,.string s,ev] 267 (0,0))∧Below w.heap.size w w':=Any.strconv_Atoi_range Tryz.laysC172 s hlim h ev w hv hev
def Tryz.laysC174_ren:Go.Shelf.Ren:=⟨fun|174=>182|247=>183|245=>155|287=>199|279=>184|280=>185|281=>186|282=>187|321=>205|322=>206|316=>200|171=>65|205=>201|243=>111|246=>144|283=>173|284=>174|285=>175|286=>176|129=>195|317=>194|318=>196|319=>197|320=>131|337=>167|338=>168|n=>n,fun|9=>9|3=>3|2=>2|75=>70|85=>249|4=>4|167=>251|5=>5|53=>189|175=>263|46=>196|168=>252|37=>64|0=>0|210=>267|21=>21|127=>127|145=>279|143=>277|171=>240|173=>242|212=>261|51=>233|20=>20|213=>262|232=>258|233=>259|80=>80|n=>n,fun|15=>4|16=>5|17=>3|18=>1|19=>2|n=>n⟩
def Tryz.laysC174:Go.Proofs.LaysC.n174 Tryz.prog Tryz.laysC174_ren:={
 mixed:=k_
 f129:=Tryz.func195.trans Bv
 f171:=Tryz.func65.trans Bv
 f174:=Tryz.func182.trans Bv
 f205:=Tryz.func201.trans Bv
 f243:=Tryz.func111.trans Bv
 f245:=Tryz.func155.trans Bv
 f246:=Tryz.func144.trans Bv
 f247:=Tryz.func183.trans Bv
 f279:=Tryz.func184.trans Bv
 f280:=Tryz.func185.trans Bv
 f281:=Tryz.func186.trans Bv
 f282:=Tryz.func187.trans Bv
 f283:=Tryz.func173.trans Bv
 f284:=Tryz.func174.trans Bv
 f285:=Tryz.func175.trans Bv
 f286:=Tryz.func176.trans Bv
 f287:=Tryz.func199.trans Bv
 f316:=Tryz.func200.trans Bv
 f317:=Tryz.func194.trans Bv
 f318:=Tryz.func196.trans Bv
 f319:=Tryz.func197.trans Bv
 f320:=Tryz.func131.trans Bv
 f321:=Tryz.func205.trans Bv
 f322:=Tryz.func206.trans Bv
 f337:=Tryz.func167.trans Bv
 f338:=Tryz.func168.trans Bv
 t0:=Tryz.underlying0
 a0:=Tryz.isAgg0
 z0:=Tryz.sizeOf0
 v0:=Tryz.zeroValue0
 t2:=Tryz.underlying2
 a2:=Tryz.isAgg2
 z2:=Tryz.sizeOf2
 v2:=Tryz.zeroValue2
 t3:=Tryz.underlying3
 a3:=Tryz.isAgg3
 z3:=Tryz.sizeOf3
 v3:=Tryz.zeroValue3
 t4:=Tryz.underlying4
 a4:=Tryz.isAgg4
 z4:=Tryz.sizeOf4
 v4:=Tryz.zeroValue4
 t5:=Tryz.underlying5
 a5:=Tryz.isAgg5
 z5:=Tryz.sizeOf5
 v5:=Tryz.zeroValue5
 t9:=Tryz.underlying9
 a9:=Tryz.isAgg9
 z9:=Tryz.sizeOf9
 v9:=Tryz.zeroValue9
 t20:=Tryz.underlying20
 a20:=Tryz.isAgg20
 z20:=Tryz.sizeOf20
 v20:=Tryz.zeroValue20
 t21:=Tryz.underlying21
 a21:=Tryz.isAgg21
 z21:=Tryz.sizeOf21
 v21:=Tryz.zeroValue21
 t37:=Tryz.underlying64
 a37:=Tryz.isAgg64
 z37:=Tryz.sizeOf64
 v37:=Tryz.zeroValue64
 t46:=Tryz.underlying196
 a46:=Tryz.isAgg196
 z46:=Tryz.sizeOf196
 v46:=Tryz.zeroValue196
 t51:=Tryz.underlying233
 a51:=Tryz.isAgg233
 z51:=Tryz.sizeOf233
 v51:=Tryz.zeroValue233
 t53:=Tryz.underlying189
 a53:=Tryz.isAgg189
 z53:=Tryz.sizeOf189
 v53:=Tryz.zeroValue189
 t75:=Tryz.underlying70
 a75:=Tryz.isAgg70
 z75:=Tryz.sizeOf70
 v75:=Tryz.zeroValue70
 t85:=Tryz.underlying249
 a85:=Tryz.isAgg249
 z85:=Tryz.sizeOf249
 v85:=Tryz.zeroValue249
 t127:=Tryz.underlying127
 a127:=Tryz.isAgg127
 z127:=Tryz.sizeOf127
 v127:=Tryz.zeroValue127
 t143:=Tryz.underlying277
 a143:=Tryz.isAgg277
 z143:=Tryz.sizeOf277
 v143:=Tryz.zeroValue277
 t145:=Tryz.underlying279
 a145:=Tryz.isAgg279
 z145:=Tryz.sizeOf279
 v145:=Tryz.zeroValue279
 t167:=Tryz.underlying251
 a167:=Tryz.isAgg251
 z167:=Tryz.sizeOf251
 v167:=Tryz.zeroValue251
 t168:=Tryz.underlying252
 a168:=Tryz.isAgg252
 z168:=Tryz.sizeOf252
 v168:=Tryz.zeroValue252
 t171:=Tryz.underlying240
 a171:=Tryz.isAgg240
 z171:=Tryz.sizeOf240
 v171:=Tryz.zeroValue240
 t173:=Tryz.underlying242
 a173:=Tryz.isAgg242
 z173:=Tryz.sizeOf242
 v173:=Tryz.zeroValue242
 t175:=Tryz.underlying263
 a175:=Tryz.isAgg263
 z175:=Tryz.sizeOf263
 v175:=Tryz.zeroValue263
 t210:=Tryz.underlying267
 a210:=Tryz.isAgg267
 z210:=Tryz.sizeOf267
 v210:=Tryz.zeroValue267
 t212:=Tryz.underlying261
 a212:=Tryz.isAgg261
 z212:=Tryz.sizeOf261
 v212:=Tryz.zeroValue261
 t213:=Tryz.underlying262
 a213:=Tryz.isAgg262
 z213:=Tryz.sizeOf262
 t232:=Tryz.underlying258
 a232:=Tryz.isAgg258
 z232:=Tryz.sizeOf258
 v232:=Tryz.zeroValue258
 t233:=Tryz.underlying259
 a233:=Tryz.isAgg259
 z233:=Tryz.sizeOf259
 v233:=Tryz.zeroValue259
 g15:=k_
 g16:=k_
 g17:=k_
 g18:=k_
 g19:=k_
 t80:=Tryz.underlying80
 a80:=Tryz.isAgg80
 z80:=Tryz.sizeOf80
 v80:=Tryz.zeroValue80
 i0:=k_
 i2:=k_
 i3:=k_
 i4:=k_
 i5:=k_
 i9:=k_
 i20:=k_
 i21:=k_
 i37:=k_
 i46:=k_
 i51:=k_
 i53:=k_
 i75:=k_
 i80:=k_
 i85:=k_
 i127:=k_
 i143:=k_
 i145:=k_
 i167:=k_
 i168:=k_
 i171:=k_
 i173:=k_
 i175:=k_
 i210:=k_
 i212:=k_
 i232:=k_
 i233:=k_
 m15:=k_
 m16:=k_
 m17:=k_
 m18:=k_
 m19:=k_
 c0:=k_
 c2:=k_
 c3:=k_
 c4:=k_
 c5:=k_
 c9:=k_
 c20:=k_
 c21:=k_
 c37:=k_
 c46:=k_
 c51:=k_
 c53:=k_
 c75:=k_
 c80:=k_
 c85:=k_
 c127:=k_
 c143:=k_
 c145:=k_
 c167:=k_
 c168:=k_
 c171:=k_
 c173:=k_
 c175:=k_
 c210:=k_
 c212:=k_
 c213:=k_
 c232:=k_
 c233:=by kernel_rfl}
open Go.RowKit in
def Tryz.strconv_ParseInt_10_at64_ok(s:Y_)(hmax:s.size<=9223372036854775806)(v:Int)(h:Lib.parseIntB 64 s.data.toList=.ok v)(w:World):
  Calls Tryz.prog 182 #[.string s,.int .i64 10,.int .i64 64] w fun e w'=>e=.returned (.tuple #[.int .i64 v,.nilIface])∧(w'=w∨∃t,w'=Lib.bytesWorld w 5 t):=Any.strconv_ParseInt_10_at64_ok Tryz.laysC174 s hmax v h w
open Go.RowKit in
def Tryz.strconv_ParseInt_10_at64_syntax(s:Y_)(hlim:s.size<=281474976710656)(h:Lib.parseIntB 64 s.data.toList=Go.Lib.NumEnd.syntax)(ev:Value)(w:World)(hv:w.cell? ⟨4,0,none⟩=some ev)(hev:ev=.nilIface∨∃te pe,ev=.iface te pe):
  Calls Tryz.prog 182 #[.string s,.int .i64 10,.int .i64 64] w fun e w'=>∃N,e=.returned (.tuple #[.int .i64 0,.iface 252 (.pointer (some ⟨N,0,none⟩))])∧w.heap.size<=N∧w'.heap[N]? =some (.cells #[.string ⟨#[80,97,114,115,101,73,110,116]⟩,.string s,ev] 267 (0,0))∧Below w.heap.size w w':=Any.strconv_ParseInt_10_at64_syntax Tryz.laysC174 s hlim h ev w hv hev
open Go.RowKit in
def Tryz.strconv_ParseInt_10_at64_range(s:Y_)(hlim:s.size<=281474976710656)(h:Lib.parseIntB 64 s.data.toList=.range)(ev:Value)(w:World)(hv:w.cell? ⟨5,0,none⟩=some ev)(hev:ev=.nilIface∨∃te pe,ev=.iface te pe):
  Calls Tryz.prog 182 #[.string s,.int .i64 10,.int .i64 64] w fun e w'=>∃N,e=.returned (.tuple #[.int .i64 (Lib.intSat 64 s.data.toList),.iface 252 (.pointer (some ⟨N,0,none⟩))])∧w.heap.size<=N∧w'.heap[N]? =some (.cells #[.string ⟨#[80,97,114,115,101,73,110,116]⟩,.string s,ev] 267 (0,0))∧Below w.heap.size w w':=Any.strconv_ParseInt_10_at64_range Tryz.laysC174 s hlim h ev w hv hev
def Tryz.lays145_ren:Go.Shelf.Ren:=⟨fun|145=>27|220=>69|219=>113|217=>146|225=>147|224=>148|267=>149|266=>177|314=>178|n=>n,fun|9=>9|4=>4|59=>83|3=>3|5=>5|46=>196|146=>244|51=>233|n=>n,fun|1=>0|n=>n⟩
def Tryz.lays145:Go.Proofs.Lays.n145 Tryz.prog Tryz.lays145_ren:={
 mixed:=k_
 f145:=Tryz.func27.trans Bv
 f217:=Tryz.func146.trans Bv
 f219:=Tryz.func113.trans Bv
 f220:=Tryz.func69.trans Bv
 f224:=Tryz.func148.trans Bv
 f225:=Tryz.func147.trans Bv
 f266:=Tryz.func177.trans Bv
 f267:=Tryz.func149.trans Bv
 f314:=Tryz.func178.trans Bv
 t3:=Tryz.underlying3
 a3:=Tryz.isAgg3
 z3:=Tryz.sizeOf3
 v3:=Tryz.zeroValue3
 t4:=Tryz.underlying4
 a4:=Tryz.isAgg4
 z4:=Tryz.sizeOf4
 v4:=Tryz.zeroValue4
 t5:=Tryz.underlying5
 a5:=Tryz.isAgg5
 z5:=Tryz.sizeOf5
 v5:=Tryz.zeroValue5
 t9:=Tryz.underlying9
 a9:=Tryz.isAgg9
 z9:=Tryz.sizeOf9
 v9:=Tryz.zeroValue9
 t46:=Tryz.underlying196
 a46:=Tryz.isAgg196
 z46:=Tryz.sizeOf196
 v46:=Tryz.zeroValue196
 t51:=Tryz.underlying233
 a51:=Tryz.isAgg233
 z51:=Tryz.sizeOf233
 v51:=Tryz.zeroValue233
 t59:=Tryz.underlying83
 a59:=Tryz.isAgg83
 z59:=Tryz.sizeOf83
 v59:=Tryz.zeroValue83
 t146:=Tryz.underlying244
 a146:=Tryz.isAgg244
 z146:=Tryz.sizeOf244
 v146:=Tryz.zeroValue244
 g1:=by kernel_rfl}
open Go.RowKit Go.Lib in
def Tryz.strings_Cut(s sep:Y_)(m:Int)(w:World)(hs:s.size<4294967281)(hm:w.cell? ⟨0,0,none⟩=some (.int .i64 m)):
  Calls Tryz.prog 27 #[.string s,.string sep] w fun e w'=>e=.returned (.tuple #[.string ⟨(Lib.cut s.data.toList sep.data.toList).1.toArray⟩,.string ⟨(Lib.cut s.data.toList sep.data.toList).2.1.toArray⟩,.bool (Lib.cut s.data.toList sep.data.toList).2.2])∧∃n,w'=w.drewN n:=Any.strings_Cut Tryz.lays145 s sep m w hs hm
def Tryz.lays146_ren:Go.Shelf.Ren:=⟨fun|146=>70|221=>114|268=>150|138=>151|143=>152|195=>179|197=>180|218=>181|219=>113|260=>198|217=>146|225=>147|224=>148|267=>149|266=>177|314=>178|n=>n,fun|9=>9|31=>87|3=>3|4=>4|0=>0|105=>247|21=>21|5=>5|46=>196|119=>271|139=>274|138=>273|146=>244|51=>233|n=>n,fun|1=>0|3=>6|4=>7|n=>n⟩
def Tryz.lays146:Go.Proofs.Lays.n146 Tryz.prog Tryz.lays146_ren:={
 mixed:=k_
 f138:=Tryz.func151.trans Bv
 f143:=Tryz.func152.trans Bv
 f146:=Tryz.func70.trans Bv
 f195:=Tryz.func179.trans Bv
 f197:=Tryz.func180.trans Bv
 f217:=Tryz.func146.trans Bv
 f218:=Tryz.func181.trans Bv
 f219:=Tryz.func113.trans Bv
 f221:=Tryz.func114.trans Bv
 f224:=Tryz.func148.trans Bv
 f225:=Tryz.func147.trans Bv
 f260:=Tryz.func198.trans Bv
 f266:=Tryz.func177.trans Bv
 f267:=Tryz.func149.trans Bv
 f268:=Tryz.func150.trans Bv
 f314:=Tryz.func178.trans Bv
 t0:=Tryz.underlying0
 a0:=Tryz.isAgg0
 z0:=Tryz.sizeOf0
 v0:=Tryz.zeroValue0
 t3:=Tryz.underlying3
 a3:=Tryz.isAgg3
 z3:=Tryz.sizeOf3
 v3:=Tryz.zeroValue3
 t4:=Tryz.underlying4
 a4:=Tryz.isAgg4
 z4:=Tryz.sizeOf4
 v4:=Tryz.zeroValue4
 t5:=Tryz.underlying5
 a5:=Tryz.isAgg5
 z5:=Tryz.sizeOf5
 v5:=Tryz.zeroValue5
 t9:=Tryz.underlying9
 a9:=Tryz.isAgg9
 z9:=Tryz.sizeOf9
 v9:=Tryz.zeroValue9
 t21:=Tryz.underlying21
 a21:=Tryz.isAgg21
 z21:=Tryz.sizeOf21
 v21:=Tryz.zeroValue21
 t31:=Tryz.underlying87
 a31:=Tryz.isAgg87
 z31:=Tryz.sizeOf87
 v31:=Tryz.zeroValue87
 t46:=Tryz.underlying196
 a46:=Tryz.isAgg196
 z46:=Tryz.sizeOf196
 v46:=Tryz.zeroValue196
 t51:=Tryz.underlying233
 a51:=Tryz.isAgg233
 z51:=Tryz.sizeOf233
 v51:=Tryz.zeroValue233
 t105:=Tryz.underlying247
 a105:=Tryz.isAgg247
 z105:=Tryz.sizeOf247
 v105:=Tryz.zeroValue247
 t119:=Tryz.underlying271
 a119:=Tryz.isAgg271
 z119:=Tryz.sizeOf271
 t138:=Tryz.underlying273
 a138:=Tryz.isAgg273
 z138:=Tryz.sizeOf273
 v138:=Tryz.zeroValue273
 t139:=Tryz.underlying274
 a139:=Tryz.isAgg274
 z139:=Tryz.sizeOf274
 v139:=Tryz.zeroValue274
 t146:=Tryz.underlying244
 a146:=Tryz.isAgg244
 z146:=Tryz.sizeOf244
 v146:=Tryz.zeroValue244
 g1:=k_
 g3:=k_
 g4:=by kernel_rfl}
open Go.RowKit Go.Lib in
def Tryz.strings_Split(s sep:Y_)(m:Int)(w:World)(hs:s.size<4294967281)(hm:w.cell? ⟨0,0,none⟩=some (.int .i64 m))(h1:1<=sep.size):
  Calls Tryz.prog 70 #[.string s,.string sep] w fun e w'=>
   e=.returned (.slice (some ⟨w.heap.size,0,none⟩) (Lib.countB s sep+1) (Lib.countB s sep+1))∧w'=w.alloc (.cells ((Lib.splitB sep 0 (Lib.countB s sep) s).map Value.string).toArray 9):=Any.strings_Split Tryz.lays146 k_ s sep m w hs hm h1
def Tryz.lays166_ren:Go.Shelf.Ren:=⟨fun|166=>19|240=>63|276=>109|n=>n,fun|0=>0|3=>3|4=>4|9=>9|20=>20|37=>64|70=>63|72=>66|75=>70|164=>176|80=>80|5=>5|n=>n,fun|n=>n⟩
def Tryz.lays166:Go.Proofs.Lays.n166 Tryz.prog Tryz.lays166_ren:={
 mixed:=k_
 f166:=Tryz.func19.trans Bv
 f240:=Tryz.func63.trans Bv
 f276:=Tryz.func109.trans Bv
 t0:=Tryz.underlying0
 a0:=Tryz.isAgg0
 z0:=Tryz.sizeOf0
 v0:=Tryz.zeroValue0
 t3:=Tryz.underlying3
 a3:=Tryz.isAgg3
 z3:=Tryz.sizeOf3
 v3:=Tryz.zeroValue3
 t4:=Tryz.underlying4
 a4:=Tryz.isAgg4
 z4:=Tryz.sizeOf4
 v4:=Tryz.zeroValue4
 t9:=Tryz.underlying9
 a9:=Tryz.isAgg9
 z9:=Tryz.sizeOf9
 v9:=Tryz.zeroValue9
 t20:=Tryz.underlying20
 a20:=Tryz.isAgg20
 z20:=Tryz.sizeOf20
 v20:=Tryz.zeroValue20
 t37:=Tryz.underlying64
 a37:=Tryz.isAgg64
 z37:=Tryz.sizeOf64
 v37:=Tryz.zeroValue64
 t70:=Tryz.underlying63
 a70:=Tryz.isAgg63
 z70:=Tryz.sizeOf63
 v70:=Tryz.zeroValue63
 t72:=Tryz.underlying66
 a72:=Tryz.isAgg66
 z72:=Tryz.sizeOf66
 v72:=Tryz.zeroValue66
 t75:=Tryz.underlying70
 a75:=Tryz.isAgg70
 z75:=Tryz.sizeOf70
 v75:=Tryz.zeroValue70
 t164:=Tryz.underlying176
 a164:=Tryz.isAgg176
 z164:=Tryz.sizeOf176
 v164:=Tryz.zeroValue176}
def Tryz.Builder_Extra_166:Builder.Extra Tryz.prog Tryz.lays166_ren:={
 sizeBuilder:=k_
 liesBuilder:=k_
 t5:=Tryz.underlying5
 a5:=Tryz.isAgg5
 z5:=Tryz.sizeOf5
 v5:=Tryz.zeroValue5
 infoByte:=k_
 cellsByte:=k_
 sizeByte:=k_
 neB5:=by decide}
end Go.Proofs
namespace Go.Proofs.YtnljjjghpgdmoaaGreatDoor
open Go.Ev Go.RowKit
structure Wd(w:World):Prop where
 pow:Lib.TabIs Tryz.prog w "internal/strconv.uint64pow10" .u64 Lib.pow10Tab
 tz:Ld.Wt w
 len:∃m,w.cell? ⟨0,0,none⟩=some (.int .i64 m)
 syn:∃te pe,w.cell? ⟨4,0,none⟩=some (.iface te pe)
 rng:∃te pe,w.cell? ⟨5,0,none⟩=some (.iface te pe)
def cell_later{w w':World}{b j:Nat}{v:Value}(h:w.cell? ⟨b,j,none⟩=some v)(hb:Below w.heap.size w w'):w'.cell? ⟨b,j,none⟩=some v:=by
 rw[hb.cell (p:=⟨b,j,none⟩) (Lib.lt_of_cell h)];exact h
def Zq{w w':World}(h:Lib.TabIs Tryz.prog w "internal/strconv.uint64pow10" .u64 Lib.pow10Tab)(hb:Below w.heap.size w w'):Lib.TabIs Tryz.prog w' "internal/strconv.uint64pow10" .u64 Lib.pow10Tab:=by
 have h0:=h.cell (g:=3) k_ 0 d_;have hlt:3<w.heap.size:=Lib.lt_of_cell h0;unfold Lib.TabIs World.var? at h⊢;rw[show Tryz.prog.globalNamed "internal/strconv.uint64pow10"=some 3 by kernel_rfl]at h⊢;have hbk:=hb.block 3 hlt;show(match w'.heap[3]? with|some (.cells cs _ _)=>some cs|_=>none)=_
 rw[hbk];exact h
def Wd.later{w w':World}(h:Wd w)(hb:Below w.heap.size w w'):Wd w':=
 ⟨Zq h.pow hb,h.tz.later hb,by obtain⟨m,hm⟩:=h.len;exact⟨m,cell_later hm hb⟩,by obtain⟨a,b,hm⟩:=h.syn;exact⟨a,b,cell_later hm hb⟩,by obtain⟨a,b,hm⟩:=h.rng;exact⟨a,b,cell_later hm hb⟩⟩
inductive ResE:List D->List Value->List Value->Prop
 |nil:ResE [] [] []
 |v{x:Value}{ds:List D}{us cs:List Value}:Di x=true->ResE ds us cs->ResE (.v x::ds) (x::us) (x::cs)
 |err{b:Bool}{c:Value}{ds:List D}{us cs:List Value}:(b=true->∃t x,c=.iface t x)->(b=false->c=.nilIface)->ResE ds us cs->ResE (.err b::ds) (rX b::us) (c::cs)
def ResE.from{ds:List D}{us cs:List Value}(h:ResE ds us cs)(m:M_):AU true ds m=some (us,m):=by
 induction h with
 |nil=>rfl
 |v ha _ ih=>simp only[AU,fromD,Bj,ha,ih]
 |err _ _ _ ih=>simp only[AU,fromD,Bj,ih]
def ResE.vs{ρ:Map}{N:Nat}{ds:List D}{us cs:List Value}(h:ResE ds us cs):Vs ρ N us cs:=by
 induction h with
 |nil=>exact .nil
 |v ha _ ih=>exact .cons (V.refl1 ha) ih
 |err h1 h2 _ ih=>exact .cons (.iface h1 h2) ih
def EQ{P:Program}{W:World->Prop}(hst:∀w w',W w->Below w.heap.size w w'->W w'){f:FuncId}{F:FD}
  (h:∀ds rs,F ds=some (true,rs)->∃xs:List Value,ds=xs.map D.v∧(∀x∈xs,Di x=true)∧∀w,W w->Calls P f ⟨xs⟩ w fun e w'=>∃us cs,e=.returned (tupV cs)∧ResE rs us cs∧Below w.heap.size w w'):DenW P W f F:=by
 intro wb hwb ds rs hF w hbw args vs' mem ρ hfrom _ hl hv;obtain⟨xs,rfl,hx,hc⟩:=h ds rs hF;rw[FK false xs [] hx]at hfrom;simp only[A5,A6]at hfrom;obtain⟨e1,e2⟩:=hfrom;subst e1;subst e2;have hargs:args=xs:=by
  apply List.ext_getElem?;intro i;by_cases hi:i<xs.length
  ·have h1:xs[i]? =some xs[i]:=AK hi;have h2:args[i]? =some args[i]:=AK o_;rw[h1,h2,(hv i _ _ h1 h2).atom1_eq (hx _ (List.getElem_mem hi))]
  ·rw[List.getElem?_eq_none o_,List.getElem?_eq_none o_]
 subst hargs;refine(hc w (hst wb w hwb hbw)).mono fun e w' ⟨us,cs,he,hr,hb⟩=>?_;exact⟨tupV cs,he,hb,us,[],fun _=>none,hr.from [],⟨fun id b h=>by simp at h,fun _ _=>rfl,fun i j b h=>by obtain⟨_,_,_,h2,_⟩:=h;simp at h2⟩,hr.vs.tupV⟩
def txt(l:List UInt8):Y_:=⟨l.toArray⟩
def str(l:List UInt8):Value:=.string (txt l)
def Ad(s:Y_):List UInt8:=s.data.toList
def WC(w:World)(n:Nat):Below w.heap.size w (w.drewN n):=⟨rfl,rfl,rfl,AC _,fun _ _=>rfl⟩
def PQ(w:World)(n:Nat)(os:Array Obj):Below w.heap.size w (Go.Sort.grow (w.drewN n) os):=⟨rfl,rfl,rfl,by show w.heap.size<=(w.heap++os).size;simp,fun k hk=>by
 show(w.heap++os)[k]? =_;rw[Array.getElem?_append_left hk]⟩
def iR(n:Int):Bool:=-9223372036854775808<=n∧n<=9223372036854775807
def iR_iff{n:Int}:iR n=true↔-9223372036854775808<=n∧n<=9223372036854775807:=by unfold iR;rw[A3]
def Amt:FD
 |[.v (.int .i64 n),.v (.int .i64 b)]=>some (iR n&&decide (b=10),[.v (str (Lib.itoa n))])
 |_=>none
def den_fmt:DenW Tryz.prog Wd 143 Amt:=EQ (fun _ _ h hb=>h.later hb) fun ds rs h=>by
 unfold Amt at h;split at h
 ·rename_i n b;simp only[A5,A6,A2,A3]at h;obtain⟨⟨h0,rfl⟩,rfl⟩:=h;obtain⟨h1,h2⟩:=iR_iff.1 h0;refine⟨[.int .i64 n,.int .i64 10],rfl,fun y hy=>?_,fun w hw=>?_⟩
  ·simp only[A8,A7,or_false]at hy;rcases hy with rfl|rfl<;>rfl
  ·refine(Tryz.strconv_FormatInt_10 n h1 o_ w hw.pow).mono fun e w' ⟨he,k,os,hw'⟩=>?_;subst hw';exact⟨_,[str (Lib.itoa n)],he,.v rfl .nil,PQ w k os⟩
 ·cases h
def An4:FD
 |[.v (.string s),.v (.string p)]=>some (s.size<4294967281,[.v (str (Lib.cut (Ad s) (Ad p)).1),.v (str (Lib.cut (Ad s) (Ad p)).2.1),.v (.bool (Lib.cut (Ad s) (Ad p)).2.2)])
 |_=>none
def den_cut:DenW Tryz.prog Wd 27 An4:=EQ (fun _ _ h hb=>h.later hb) fun ds rs h=>by
 unfold An4 at h;split at h
 ·rename_i s p;simp only[A5,A6,A3]at h;obtain⟨h0,rfl⟩:=h;refine⟨[.string s,.string p],rfl,fun y hy=>?_,fun w hw=>?_⟩
  ·simp only[A8,A7,or_false]at hy;rcases hy with rfl|rfl<;>rfl
  ·obtain⟨m,hm⟩:=hw.len;refine(Tryz.strings_Cut s p m w h0 hm).mono fun e w' ⟨he,n,hw'⟩=>?_;subst hw';exact⟨_,[str (Lib.cut (Ad s) (Ad p)).1,str (Lib.cut (Ad s) (Ad p)).2.1,.bool (Lib.cut (Ad s) (Ad p)).2.2],he,.v rfl (.v rfl (.v rfl .nil)),WC w n⟩
 ·cases h
def XY(l:List UInt8):Int:=match Lib.atoiAll l with
 |.ok v=>v
 |Go.Lib.NumEnd.syntax=>0
 |.range=>Lib.atoiSat l
def Y4(l:List UInt8):Bool:=match Lib.atoiAll l with
 |.ok _=>false
 |_=>true
def bV:FD
 |[.v (.string s)]=>some (s.size<=4294967296,[.v (i64 (XY (Ad s))),.err (Y4 (Ad s))])
 |_=>none
def uS:DenW Tryz.prog Wd 116 bV:=EQ (fun _ _ h hb=>h.later hb) fun ds rs h=>by
 unfold bV at h;split at h
 ·rename_i s;simp only[A5,A6,A3]at h;obtain⟨h0,rfl⟩:=h;refine⟨[.string s],rfl,fun y hy=>?_,fun w hw=>?_⟩
  ·simp only[A8,A7,or_false]at hy;rcases hy with rfl;rfl
  ·unfold XY Y4 Ad;rcases hp:Lib.atoiAll s.data.toList with v|_|_
   ·refine(Tryz.strconv_Atoi_ok s o_ v hp w).mono fun e w' ⟨he,hw'⟩=>?_;refine⟨_,[i64 v,.nilIface],he,.v rfl (.err (fun h=>by cases h) (fun _=>rfl) .nil),?_⟩;rcases hw' with rfl|⟨t,rfl⟩
    ·exact Below.refl _ _
    ·exact Lib.bytesWorld_below _ _ _
   ·obtain⟨te,pe,hs⟩:=hw.syn;refine(Tryz.strconv_Atoi_syntax s o_ hp _ w hs (.inr ⟨te,pe,rfl⟩)).mono fun e w' ⟨N,he,_,_,hb⟩=>?_;exact⟨_,[i64 0,.iface 252 (.pointer (some ⟨N,0,none⟩))],he,.v rfl (.err (fun _=>⟨_,_,rfl⟩) (fun h=>by cases h) .nil),hb⟩
   ·obtain⟨te,pe,hs⟩:=hw.rng;refine(Tryz.strconv_Atoi_range s o_ hp _ w hs (.inr ⟨te,pe,rfl⟩)).mono fun e w' ⟨N,he,_,_,hb⟩=>?_;exact⟨_,[i64 _,.iface 252 (.pointer (some ⟨N,0,none⟩))],he,.v rfl (.err (fun _=>⟨_,_,rfl⟩) (fun h=>by cases h) .nil),hb⟩
 ·cases h
def Qq(l:List UInt8):Int:=match Lib.parseIntB 64 l with
 |.ok v=>v
 |Go.Lib.NumEnd.syntax=>0
 |.range=>Lib.intSat 64 l
def X0(l:List UInt8):Bool:=match Lib.parseIntB 64 l with
 |.ok _=>false
 |_=>true
def Aes:FD
 |[.v (.string s),.v (.int .i64 b),.v (.int .i64 z)]=>some (decide (b=10)&&decide (z=64)&&decide (s.size<=4294967296),[.v (i64 (Qq (Ad s))),.err (X0 (Ad s))])
 |_=>none
def bZ:DenW Tryz.prog Wd 182 Aes:=EQ (fun _ _ h hb=>h.later hb) fun ds rs h=>by
 unfold Aes at h;split at h
 ·rename_i s b z;simp only[A5,A6,A2,A3]at h;obtain⟨⟨⟨rfl,rfl⟩,h0⟩,rfl⟩:=h;refine⟨[.string s,.int .i64 10,.int .i64 64],rfl,fun y hy=>?_,fun w hw=>?_⟩
  ·simp only[A8,A7,or_false]at hy;rcases hy with rfl|rfl|rfl<;>rfl
  ·unfold Qq X0 Ad;rcases hp:Lib.parseIntB 64 s.data.toList with v|_|_
   ·refine(Tryz.strconv_ParseInt_10_at64_ok s o_ v hp w).mono fun e w' ⟨he,hw'⟩=>?_;refine⟨_,[i64 v,.nilIface],he,.v rfl (.err (fun h=>by cases h) (fun _=>rfl) .nil),?_⟩;rcases hw' with rfl|⟨t,rfl⟩
    ·exact Below.refl _ _
    ·exact Lib.bytesWorld_below _ _ _
   ·obtain⟨te,pe,hs⟩:=hw.syn;refine(Tryz.strconv_ParseInt_10_at64_syntax s o_ hp _ w hs (.inr ⟨te,pe,rfl⟩)).mono fun e w' ⟨N,he,_,_,hb⟩=>?_;exact⟨_,[i64 0,.iface 252 (.pointer (some ⟨N,0,none⟩))],he,.v rfl (.err (fun _=>⟨_,_,rfl⟩) (fun h=>by cases h) .nil),hb⟩
   ·obtain⟨te,pe,hs⟩:=hw.rng;refine(Tryz.strconv_ParseInt_10_at64_range s o_ hp _ w hs (.inr ⟨te,pe,rfl⟩)).mono fun e w' ⟨N,he,_,_,hb⟩=>?_;exact⟨_,[i64 _,.iface 252 (.pointer (some ⟨N,0,none⟩))],he,.v rfl (.err (fun _=>⟨_,_,rfl⟩) (fun h=>by cases h) .nil),hb⟩
 ·cases h
def Zx(l:List Y_):Row:=.mk l.length (fun _ _=>0) (fun _ _=>false) (fun e _=>l.getD e .empty) (fun _ _=>.nil)
def strs(r:Row)(n:Nat):List Y_:=(List.range n).map fun e=>r.S e 0
def CX(s p:Y_):List Y_:=Lib.splitB p 0 (Lib.countB s p) s
def wE:FD
 |[.v (.string s),.v (.string p)]=>some (decide (s.size<4294967281)&&decide (1<=p.size),[.slice [.str] (Zx (CX s p))])
 |_=>none
def ZM{N:Nat}{ρ:Map}{args xs:List Value}(hl:xs.length=args.length)(hx:∀x∈xs,Di x=true)(hv:∀(i:Nat)(x c:Value),xs[i]? =some x->args[i]? =some c->V ρ N x c):args=xs:=by
 apply List.ext_getElem?;intro i;by_cases hi:i<xs.length
 ·have h1:xs[i]? =some xs[i]:=AK hi;have h2:args[i]? =some args[i]:=AK o_;rw[h1,h2,(hv i _ _ h1 h2).atom1_eq (hx _ (List.getElem_mem hi))]
 ·rw[List.getElem?_eq_none o_,List.getElem?_eq_none o_]
def den_split:DenW Tryz.prog Wd 70 wE:=by
 intro wb hwb ds rs hF w hbw args vs mem ρ hfrom _ hl hv;unfold wE at hF;split at hF
 ·rename_i s p;simp only[A5,A6,A2,A3]at hF;obtain⟨⟨h0,h1⟩,rfl⟩:=hF;have e1:vs=[.string s,.string p]:=by
   have:AU false [D.v (.string s),D.v (.string p)] []=some ([.string s,.string p],[]):=rfl;rw[this]at hfrom;simp only[A5,A6]at hfrom;exact hfrom.1.symm
  subst e1;have e2:=ZM hl (fun x hx=>by simp only[A8,A7,or_false]at hx;rcases hx with rfl|rfl<;>rfl) hv;subst e2;have hw:=hwb.later hbw;obtain⟨m,hm⟩:=hw.len;have hlen:(CX s p).length=Lib.countB s p+1:=Lib.splitB_all p h1 0 _ s rfl;refine(Tryz.strings_Split s p m w h0 hm h1).mono fun e w' ⟨he,hw'⟩=>?_;subst hw';have hnew:(w.alloc (.cells ((CX s p).map Value.string).toArray 9)).heap[w.heap.size]? =some (.cells ((CX s p).map Value.string).toArray 9 (0,0)):=by
   show(w.heap.push _)[w.heap.size]? =_;simp
  refine⟨_,he,(Below.refl _ w).alloc (AC _) _,[.slice (some ⟨0,0,some 0⟩) (CX s p).length 0],[some (.row [.str] true (Zx (CX s p)))],fun i=>if i=0 then some ⟨w.heap.size,0,1,(CX s p).length,(CX s p).length,true,s0⟩else none,rfl,?_,?_⟩
  ·refine⟨fun id b hb=>?_,fun id hid=>?_,fun i j b hi hj=>?_⟩
   ·match id,hb with
    |0,hb=>
     simp only[List.getElem?_cons_zero,A5]at hb;subst hb;refine⟨_,AM rfl,rfl,rfl,fun _=>⟨rfl,AC _,fun _=>⟨AC _,_,_,hnew,?_⟩⟩,fun hn=>⟨(fun h=>by cases h),?_⟩,rfl⟩
     ·show 0+(CX s p).length*1<=_;simp
     ·refine .mk (fun e _=>.string ((CX s p).getD e .empty)) (fun e j k he hk=>?_) (fun e j k he hk=>?_)
      ·match j,hk with
       |0,hk=>
        have he:e<(CX s p).length:=he;show(w.alloc (.cells ((CX s p).map Value.string).toArray 9)).cell? ⟨w.heap.size,0+e*1+0,none⟩=_;rw[Lib.cell_of_heap hnew];show((CX s p).map Value.string).toArray[0+e*1+0]? =_;rw[show 0+e*1+0=e by omega];simp[he,List.getD_eq_getElem?_getD]
      ·match j,hk with
       |0,hk=>
        cases hk;exact .str
   ·match id with
    |0=>exact absurd rfl (hid _)
    |n+1=>exact AL o_
   ·obtain⟨L,blk,g1,g2,_⟩:=hi;obtain⟨L',blk',g1',g2',_⟩:=hj;have a1:i=0:=by
     match i,g2 with
     |0,_=>rfl
    have a2:j=0:=by
     match j,g2' with
     |0,_=>rfl
    omega
  ·show V _ 1 (.slice (some ⟨0,0,some 0⟩) (CX s p).length 0) (.slice (some ⟨w.heap.size,0,none⟩) (Lib.countB s p+1) (Lib.countB s p+1));rw[<-hlen];exact .slice (L:=⟨w.heap.size,0,1,(CX s p).length,(CX s p).length,true,s0⟩) o_ (AM rfl) (by show 0+_<=(CX s p).length;omega) (AC _) (fun _=>by show _=some (Loc.adr _ 0 0);rfl) (fun _=>⟨by show 0+_<=(CX s p).length;omega,.inr rfl⟩)
 ·cases hF
def CB(l:List UInt8):Ad (txt l)=l:=rfl
def txt_by(s:Y_):txt (Ad s)=s:=by cases s;rfl
def txt_size(l:List UInt8):(txt l).size=l.length:=by
 show l.toArray.size=_;simp
def txt_app(a b:List UInt8):txt a++txt b=txt (a++b):=ByteArray.mk_append_mk a b
def AZ(s:Y_):s.size=(Ad s).length:=by
 unfold Ad;rw[Array.length_toList];rfl
def D6(s:Y_):s.toList=Ad s:=ByteArray.toList_eq s
def by_inj{a b:Y_}(h:Ad a=Ad b):a=b:=by rw[<-txt_by a,<-txt_by b,h]
def Ei(a b:Y_):Ad (a++b)=Ad a++Ad b:=by
 conv=>lhs;rw[<-txt_by a,<-txt_by b,txt_app]
 exact CB _
open Go.Lib in
def nDigits_lt:∀(k u:Nat),u<10^(k+1)->nDigits u<=k+1
 |0,u,h=>by rw[nDigits_small (by simpa using h)];exact AC _
 |k+1,u,h=>by
  by_cases hs:u<10
  ·rw[nDigits_small hs];omega
  ·rw[nDigits_big hs];have:=nDigits_lt k (u/10) (by rw[Nat.pow_succ]at h;omega);omega
open Go.Lib in
def C9{n:Int}(h:iR n=true):(itoa n).length<=21:=by
 obtain⟨h0,h1⟩:=iR_iff.1 h;unfold itoa;by_cases hn:n<0
 ·rw[AM hn];have:=decDigits_length n.natAbs;have h3:=nDigits_lt 19 n.natAbs o_;simp only[List.length_cons];omega
 ·rw[AL hn];have:=decDigits_length n.toNat;have h3:=nDigits_lt 19 n.toNat o_;omega
open Go.Lib
set_option maxRecDepth 100000
set_option maxHeartbeats 1000000 in
def kX(b:Nat)(w:World)(h0:w.cell? ⟨b,0,none⟩=some (.pointer none))(hsh:w.shape? b=some (68,2))(hfz:w.frozen? ⟨b,0,none⟩=false):
  Calls Tryz.prog 63 #[.pointer (some ⟨b,0,none⟩)] w fun e w'=>e=.returned (.tuple #[])∧w'=w.setCell ⟨b,0,none⟩ (.pointer (some ⟨b,0,none⟩)):=by
 obtain⟨i0,hi,his⟩:=Option.map_eq_some_iff.1 (show(Tryz.prog.info? 66).map (·.size)=some 2 by kernel_rfl)
 go_enter Tryz.func63,Tryz.ntmps63
 go_wp2
 rw[Lib.run_to_unsafe w ⟨b,0,none⟩ Tryz.underlying63 Tryz.underlying176 hi (by rw[his];decide) hsh (Nat.zero_lt_succ 1)];simp only[Result.andThen];rw[Oper.upon_value]
 go_wp2
 rw[run_callFunc_extern Tryz.func109 k_ k_ k_ (e:=Extern.AbiNoEscape.same) k_];rw[Lib.run_noEscape];simp only[Result.andThen];rw[Oper.upon_value]
 go_wp2
 rw[Lib.run_from_unsafe w ⟨b,0,none⟩ Tryz.underlying176 Tryz.underlying63 hi hsh k_];simp only[Result.andThen];rw[Oper.upon_value]
 go_wp2
 go_end0
 exact⟨rfl,rfl⟩
set_option maxHeartbeats 1000000 in
def Aag(B b:Nat)(bs:List Value)(w:World)(h:Lib.IsBuilderF 68 5 B b bs w):
  Calls Tryz.prog 63 #[.pointer (some ⟨b,0,none⟩)] w fun e w'=>e=.returned (.tuple #[])∧(Lib.BuilderAtF 68 5 B b (.pointer (some ⟨b,0,none⟩)) bs w'∧Below B w w'∧Lib.OthersKept 5 (some b) w w'):=by
 rcases h with h|h
 ·refine(kX b w h.cell0 h.shape h.frozen0).mono ?_;rintro e w' ⟨rfl,rfl⟩;exact⟨rfl,h.used _,(Below.refl B w).setCell (p:=⟨b,0,none⟩) h.1 _,(Lib.OthersKept.refl _ _ w).setCell ⟨b,0,none⟩ rfl _⟩
 ·refine(Any.Builder_copyCheck_used {Tryz.lays166 with} Tryz.Builder_Extra_166.toX72 b w h.cell0).mono ?_;rintro e w' ⟨rfl,rfl⟩;exact⟨rfl,h,Below.refl B _,Lib.OthersKept.refl _ _ _⟩
set_option maxHeartbeats 2000000 in
def FW(B b:Nat)(l:List UInt8)(s:Y_)(w:World)(h:Lib.IsBuilderF 68 5 B b (Lib.byteCells l) w)(hlen:l.length+s.size<=140737488355328)(hBw:B<=w.heap.size):
  Calls Tryz.prog 19 #[.pointer (some ⟨b,0,none⟩),.string s] w fun e w'=>e=.returned (.tuple #[.int .i64 s.size,.nilIface])∧Lib.IsBuilderF 68 5 B b (Lib.byteCells (l++Ad s)) w'∧Below B w w'∧Lib.OthersKept 5 (some b) w w':=by
 obtain⟨i0,hi,hz0,hz1,hz2⟩:=info_parts (show(Tryz.prog.info? 5).map (fun i=>(i.zero,i.size,i.bytes))=some (some (.int .u8 0),1,1) by kernel_rfl);have hlen':(Lib.byteCells l).length+s.size<=140737488355328:=by rw[Lib.byteCells_length];exact hlen
 go_enter Tryz.func19,Tryz.ntmps19
 go_wp2_with (first|(go_at_call 63;refine(Aag B b (Lib.byteCells l) _ h).mono ?_))
 rintro e w1 ⟨rfl,h1,hb1,hk1⟩;obtain⟨hB,v,hbk,hown,hne⟩:=h1;have c0:w1.cell? ⟨b,0,none⟩=some (.pointer (some ⟨b,0,none⟩)):=by rw[Lib.cell_of_heap hbk];rfl
 have c1:w1.cell? ⟨b,1,none⟩=some v:=by rw[Lib.cell_of_heap hbk];rfl
 go_wp2_with (at_builtin;refine Lib.wpList_append_own_stringF _ rfl _ _ 64 9 rfl B 5 i0 Tryz.underlying64 Tryz.underlying9 hi hz0 hz1 hz2 _ _ _ rfl hown s rfl ?c3 ?c4 ?c5 ?_)
 case c3=>unfold maxLen;omega
 case c4=>omega
 case c5=>have:=hb1.size;omega
 intro v' w2 hown' hgrow _;have hlt:b<w1.heap.size:=by
  rcases Nat.lt_or_ge b w1.heap.size with h'|h'
  ·exact h'
  ·simp[Array.getElem?_eq_none h']at hbk
 have hb2:w2.heap[b]? =some (.cells #[.pointer (some ⟨b,0,none⟩),v] 68 (0,0)):=by
  rw[hgrow.block b hlt (fun e=>hne e.symm)];exact hbk
 have d0:w2.cell? ⟨b,0,none⟩=some (.pointer (some ⟨b,0,none⟩)):=by rw[Lib.cell_of_heap hb2];rfl
 have d1:w2.cell? ⟨b,1,none⟩=some v:=by rw[Lib.cell_of_heap hb2];rfl
 have f1:w2.frozen? ⟨b,1,none⟩=false:=Lib.frozen_of_heap hb2 1;obtain⟨ao,n',cap,rfl⟩:∃ao n' cap,v'=.slice ao n' cap:=by
  rcases hown'.2 with⟨hv,_⟩|⟨g,cap,cur,fz,hv,_⟩
  ·exact⟨_,_,_,hv⟩
  ·exact⟨_,_,_,hv⟩
 go_wp2
 go_ret2
 refine⟨rfl,.inr ?_,?_,(hk1.grown hgrow (Lib.ownsRowF_kind hown)).setCell ⟨b,1,none⟩ rfl _⟩
 ·have hs:Lib.byteCells (l++Ad s)=Lib.byteCells l++Lib.strCells s:=Lib.byteCells_append _ _;rw[hs];exact Lib.BuilderAtF.put (T:=68) (e:=5) hB hb2 (bs':=Lib.byteCells l++Lib.strCells s) (by simpa [Lib.strCells_length]using hown') d_
 ·exact(hb1.grown hgrow (by have:=hb1.size;omega) (fun k hk=>(hown.lt k hk).1)).setCell (p:=⟨b,1,none⟩) hB _
set_option maxHeartbeats 1000000 in
def Si(B b:Nat)(l:List UInt8)(w:World)(h:Lib.IsBuilderF 68 5 B b (Lib.byteCells l) w):
  Calls Tryz.prog 23 #[.pointer (some ⟨b,0,none⟩)] w fun e w'=>e=.returned (.int .i64 l.length)∧w'=w:=by
 obtain⟨p,hB,v,hbk,hown,hne⟩:∃p,Lib.BuilderAtF 68 5 B b p (Lib.byteCells l) w:=by
  rcases h with h|h
  ·exact⟨_,h⟩
  ·exact⟨_,h⟩
 rw[Lib.byteCells_length]at hown;obtain⟨ao,cap,rfl⟩:∃ao cap,v=.slice ao l.length cap:=by
  rcases hown.2 with⟨hv,h0⟩|⟨g,cap,cur,fz,hv,_⟩
  ·exact⟨none,0,by rw[hv,h0]⟩
  ·exact⟨_,_,hv⟩
 have c1:w.cell? ⟨b,1,none⟩=some (.slice ao l.length cap):=by rw[Lib.cell_of_heap hbk];rfl
 go_enter Tryz.func23,Tryz.ntmps23
 go_wp2
 go_ret
 exact⟨rfl,rfl⟩
set_option maxHeartbeats 1000000 in
def NP(B b:Nat)(l:List UInt8)(w:World)(h:Lib.IsBuilderF 68 5 B b (Lib.byteCells l) w)(h0:l≠[]):
  Calls Tryz.prog 24 #[.pointer (some ⟨b,0,none⟩)] w fun e w'=>e=.returned (.string (txt l))∧Below B w w':=by
 obtain⟨p,hB,v,hbk,hown,hne⟩:∃p,Lib.BuilderAtF 68 5 B b p (Lib.byteCells l) w:=by
  rcases h with h|h
  ·exact⟨_,h⟩
  ·exact⟨_,h⟩
 have hl0:l.length≠0:=by simpa using h0
 rw[Lib.byteCells_length]at hown;obtain⟨g,cap,cur,fz,rfl,hbg,hg,hfz,hnc,hcm,hcs,htake⟩:∃g cap cur fz,v=.slice (some ⟨g,0,none⟩) l.length cap∧B<=g∧w.heap[g]? =some (.cells cur 5 fz)∧fz.2<=l.length*1∧l.length<=cap∧cap<=maxLen∧cur.size=cap*1∧cur.toList.take (l.length*1)=Lib.byteCells l:=by
  rcases hown.2 with⟨_,hz⟩|⟨g,cap,cur,fz,hv,r⟩
  ·exact absurd hz hl0
  ·exact⟨g,cap,cur,fz,hv,r⟩
 have c1:w.drew.cell? ⟨b,1,none⟩=some (.slice (some ⟨g,0,none⟩) l.length cap):=by
  have:w.drew.heap[b]? =some (.cells #[p,.slice (some ⟨g,0,none⟩) l.length cap] 68 (0,0)):=hbk;rw[Lib.cell_of_heap this];rfl
 have hSD:(Builtin.unsafeSliceData_ #[64] 127 #[.slice (some ⟨g,0,none⟩) l.length cap]).run Tryz.prog w.drew=.ok (.pointer (some ⟨g,0,none⟩)) w.drew:=
  Lib.run_unsafeSliceData_row _ _ _ _ _ _ o_
 have hUS:(Builtin.unsafeString_ #[127,3] 9 #[.pointer (some ⟨g,0,none⟩),.int .i64 l.length]).run Tryz.prog w.drew=.ok (.string ⟨l.toArray⟩) (w.drew.freeze ⟨g,0,none⟩ l.length):=by
  refine Lib.run_unsafeString_row w.drew 127 3 9 5 Tryz.underlying127 k_ g cur.size (by have hg':w.drew.heap[g]? =some (.cells cur 5 fz):=hg;simp[World.shape?,hg']) l h0 o_ (by unfold maxLen at hcm;omega) ?_;intro j x hx;exact hown.cells (g:=g) rfl j (.int .u8 x.toNat) (by simp[Lib.byteCells,hx])
 have mx:Tryz.prog.follows .mixedOrders=true:=mixed
 go_enter Tryz.func24,Tryz.ntmps24
 go_wp2
 go_region_o
 all_goals (go_wp2;go_ret;exact⟨rfl,Lib.below_freeze (Below.drew (Below.refl B w)) (p:=⟨g,0,none⟩) hbg _⟩)
end Go.Proofs.YtnljjjghpgdmoaaGreatDoor

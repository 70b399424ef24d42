import Derived.Test.YtnljjjghpgdmoaaGreatDoorXai
set_option linter.all false
namespace Go.Proofs.YtnljjjghpgdmoaaGreatDoor.Ld
open Go.Ev
set_option maxRecDepth 100000
def rsU(b:Row)(j:Nat)(x:Nat×Row):Nat×Row:=(if b.I j 0≠0 then x.1|||2^j else x.1,x.2.setI j 0 (-1))
def Ns(b:Row):Nat->Nat->Nat×Row->Nat×Row
 |0,_,x=>x
 |m+1,j,x=>Ns b m (j+1) (rsU b j x)
def rC(g h:Nat):Bool:= !Nat.beq (((g^^^h)&&&(18446744073709551616-(g^^^h)))&&&g) 0
def QY(m:Row)(rest low g best:Nat):Nat:=if g&&&low=0∨m.I g 0<1∨m.I (rest^^^g) 0≠wi (m.I rest 0-1)then best else if best=0∨rC g best=true then g else best
def bst(m:Row)(rest low:Nat):Nat->Nat->Nat->Nat
 |0,_,best=>best
 |n+1,g,best=>if g=0 then best else bst m rest low n ((g-1)&&&rest) (QY m rest low g best)
def Zr(best:Nat)(group:Int):Nat->Nat->Row->Row
 |0,_,o=>o
 |m+1,j,o=>Zr best group m (j+1) (if best.testBit j=true then o.setI j 0 group else o)
def KL(s:Nat):Nat:=s&&&(18446744073709551616-s)
def pI(m:Row)(n:Nat):Nat->Nat->Nat->Row->Option Row
 |f,rest,group,o=>if rest=0 then some o else match f with
  |0=>none
  |f+1=>pI m n f (rest^^^bst m rest (KL rest) (rest+1) rest 0) (group+1) (Zr (bst m rest (KL rest) (rest+1) rest 0) group n 0 o)
def S7(nb n n':Nat)(m rest j:Int)(b o:Row):St:=⟨[sl 0 nb]++us 4++[sl 1 n,i64 rest]++us 16++[sl 0 n',i64 m,i64 j]++us 83,[[]],[Rb false b,Rb true o]⟩
def yP(nb n:Nat)(rest:Int)(b o:Row):St:=⟨[sl 0 nb]++us 4++[sl 1 n,i64 rest]++us 102,[[]],[Rb false b,Rb true o]⟩
def G7(cd:Nat->Nat->Nat->Int->Bool):List It->(X->St->OD)->OD
 |[.n nb,.n n,.n n',.i m,.r b,.r o],k=>br (cd nb n n' m) (k (.exit 0) (yP nb n (Ns b n 0 (0,o)).1 b (Ns b n 0 (0,o)).2)) none
 |_,_=>none
def l7(cd:Nat->Nat->Nat->Int->Bool):LoopC where
 f:=39
 id:=7
 lv:=[0,5,6,23,24,25]
 lx:=[0,2,3,5,6]
 p:={τ:=[.v (.sl 0)]++pu 4++[.v (.sl 1),.v (.c (i64 0))]++pu 16++[.v (.sl 0),.v (.int .i64),.v (.c (i64 0))]++pu 83,saved:=[[]],mem:=[.row Ha false,.row Ha true]}
 G:=G7 cd
def VT(nb no nm:Nat)(rest group low best g:Int)(b o m:Row):St:=⟨[sl 0 nb]++us 4++[sl 1 no,i64 rest]++us 2++[sl 2 nm,i64 group,i64 low,i64 best,i64 g]++us 95,[[]],[Rb false b,Rb true o,Rb true m]⟩
def Ti(nb no nm:Nat)(rest group best:Int)(b o m:Row):St:=⟨[sl 0 nb]++us 4++[sl 1 no,i64 rest]++us 2++[sl 2 nm,i64 group]++us 1++[i64 best]++us 96,[[]],[Rb false b,Rb true o,Rb true m]⟩
def G20(cd:Nat->Int->Int->Int->Int->Bool):List It->(X->St->OD)->OD
 |[.n nb,.n no,.i rest,.n nm,.i group,.i low,.i best,.i g,.r b,.r o,.r m],k=>br (cd nm rest low best g) (k (.exit 4) (Ti nb no nm rest group (bst m rest.toNat low.toNat (g.toNat+1) g.toNat 0:Nat) b o m)) none
 |_,_=>none
def l20(cd:Nat->Int->Int->Int->Int->Bool):LoopC where
 f:=39
 id:=20
 lv:=[0,5,6,9,10,11,12,13]
 lx:=[0,2,3,5,6,9,10,12]
 p:={τ:=[.v (.sl 0)]++pu 4++[.v (.sl 1),.v (.int .i64)]++pu 2++[.v (.sl 2),.v (.int .i64),.v (.int .i64),.v (.int .i64),.v (.int .i64)]++pu 95,saved:=[[]],mem:=[.row Ha false,.row Ha true,.row Ha true]}
 G:=G20 cd
def S26(nb no nm:Nat)(rest group best c j:Int)(b o m:Row):St:=⟨[sl 0 nb]++us 4++[sl 1 no,i64 rest]++us 2++[sl 2 nm,i64 group]++us 1++[i64 best]++us 78++[i64 c,i64 j]++us 16,[[]],[Rb false b,Rb true o,Rb true m]⟩
def G26(cd:Nat->Int->Int->Bool):List It->(X->St->OD)->OD
 |[.n nb,.n no,.i rest,.n nm,.i group,.i best,.i c,.r b,.r o,.r m],k=>br (cd no best c) (k (.exit 6) (Ti nb no nm rest group best b (Zr best.toNat group no 0 o) m)) none
 |_,_=>none
def l26(cd:Nat->Int->Int->Bool):LoopC where
 f:=39
 id:=26
 lv:=[0,5,6,9,10,12,91,92]
 lx:=[0,2,3,5,6,9,10,12]
 p:={τ:=[.v (.sl 0)]++pu 4++[.v (.sl 1),.v (.int .i64)]++pu 2++[.v (.sl 2),.v (.int .i64)]++pu 1++[.v (.int .i64)]++pu 78++[.v (.int .i64),.v (.c (i64 0))]++pu 16,saved:=[[]],mem:=[.row Ha false,.row Ha true,.row Ha true]}
 G:=G26 cd
def S15(nb no nm:Nat)(rest group:Int)(b o m:Row):St:=⟨[sl 0 nb]++us 4++[sl 1 no,i64 rest]++us 2++[sl 2 nm,i64 group]++us 98,[[]],[Rb false b,Rb true o,Rb true m]⟩
def rJ(no:Nat)(o:Row):St:=⟨us 5++[sl 0 no]++us 103,[[]],[Rb true o]⟩
def G15(gs:Nat->Nat->Nat->Int->Row->Row->Option Row):List It->(X->St->OD)->OD
 |[.n nb,.n no,.i rest,.n nm,.r _,.r o,.r m],k=>match gs nb no nm rest o m with|some o'=>k (.exit 2) (rJ no o')|none=>none
 |_,_=>none
def l15(gs:Nat->Nat->Nat->Int->Row->Row->Option Row):LoopC where
 f:=39
 id:=15
 lv:=[0,5,6,9,10]
 lx:=[2,3,5]
 p:={τ:=[.v (.sl 0)]++pu 4++[.v (.sl 1),.v (.int .i64)]++pu 2++[.v (.sl 2),.v (.c (i64 0))]++pu 98,saved:=[[]],mem:=[.row Ha false,.row Ha true,.row Ha true]}
 G:=G15 gs
noncomputable def Xl(c7:Nat->Nat->Nat->Int->Bool)(c20:Nat->Int->Int->Int->Int->Bool)(c26:Nat->Int->Int->Bool)(gs:Nat->Nat->Nat->Int->Row->Row->Option Row):Cx:=AU Tryz.prog fns [(87,Fck),(88,kL)] [l7 c7,l20 c20,l26 c26,l15 gs]
section
variable(c7:Nat->Nat->Nat->Int->Bool)(c20:Nat->Int->Int->Int->Int->Bool)(c26:Nat->Int->Int->Bool)(gs:Nat->Nat->Nat->Int->Row->Row->Option Row)
theorem QN(R:St->OD)(K:X->St->OD)(p nb n n':Nat)(m rest j:Int)(b o:Row):Au (Xl c7 c20 c26 gs) 39 true (inl (Xl c7 c20 c26 gs) (p+4)) (Bc (Xl c7 c20 c26 gs).P 39 7) (S7 nb n n' m rest j b o) (BI [0,5,6,23,24,25] (some [0,2,3,5,6]) R K)=br (j<m) (br (0<=j&&j<(n':Int)) (br (0<=j&&j<(n:Int)) (br (b.I (0+j.toNat) 0 !=0) (br (j<0) none (R (S7 nb n n' m (bOr rest (wi (1*2^min j.toNat 64))) (wi (j+1)) b (o.setI (0+j.toNat) 0 (-1))))) (R (S7 nb n n' m rest (wi (j+1)) b (o.setI (0+j.toNat) 0 (-1))))) none) none) (K (.exit 0) (yP nb n rest b o)):=by kernel_rfl
def bef(g h:Int):Bool:=Bz (Bz (Hl g h) (wi (0-Hl g h))) g !=0
theorem qU(R:St->OD)(K:X->St->OD)(p nb no nm:Nat)(rest group low best g:Int)(b o m:Row):Au (Xl c7 c20 c26 gs) 39 true (inl (Xl c7 c20 c26 gs) (p+4)) (Bc (Xl c7 c20 c26 gs).P 39 20) (VT nb no nm rest group low best g b o m) (BI [0,5,6,9,10,11,12,13] (some [0,2,3,5,6,9,10,12]) R K)=br (g>0) (br (Bz g low==0) (R (VT nb no nm rest group low best (Bz (wi (g-1)) rest) b o m)) (br (0<=g&&g<(nm:Int)) (br (m.I (0+g.toNat) 0<1) (R (VT nb no nm rest group low best (Bz (wi (g-1)) rest) b o m)) (br (0<=Hl rest g&&Hl rest g<(nm:Int)) (br (0<=rest&&rest<(nm:Int)) (br (m.I (0+(Hl rest g).toNat) 0 !=wi (m.I (0+rest.toNat) 0-1)) (R (VT nb no nm rest group low best (Bz (wi (g-1)) rest) b o m)) (br (best==0) (R (VT nb no nm rest group low g (Bz (wi (g-1)) rest) b o m)) (br (bef g best) (R (VT nb no nm rest group low g (Bz (wi (g-1)) rest) b o m)) (R (VT nb no nm rest group low best (Bz (wi (g-1)) rest) b o m))))) none) none)) none)) (K (.exit 4) (Ti nb no nm rest group best b o m)):=by kernel_rfl
theorem uT(R:St->OD)(K:X->St->OD)(p nb no nm:Nat)(rest group best c j:Int)(b o m:Row):Au (Xl c7 c20 c26 gs) 39 true (inl (Xl c7 c20 c26 gs) (p+4)) (Bc (Xl c7 c20 c26 gs).P 39 26) (S26 nb no nm rest group best c j b o m) (BI [0,5,6,9,10,12,91,92] (some [0,2,3,5,6,9,10,12]) R K)=br (j<c) (br (j<0) none (br (Bz (Vp best j) 1==1) (br (0<=j&&j<(no:Int)) (R (S26 nb no nm rest group best c (wi (j+1)) b (o.setI (0+j.toNat) 0 group) m)) none) (R (S26 nb no nm rest group best c (wi (j+1)) b o m)))) (K (.exit 6) (Ti nb no nm rest group best b o m)):=by kernel_rfl
theorem uN(R:St->OD)(K:X->St->OD)(p nb no nm:Nat)(rest group:Int)(b o m:Row):Au (Xl c7 c20 c26 gs) 39 true (inl (Xl c7 c20 c26 gs) (p+4)) (Bc (Xl c7 c20 c26 gs).P 39 15) (S15 nb no nm rest group b o m) (BI [0,5,6,9,10] (some [2,3,5]) R K)=br (rest !=0) (br (c20 nm rest (Bz rest (wi (0-rest))) 0 rest) (br (c26 no (bst m rest.toNat (Bz rest (wi (0-rest))).toNat (rest.toNat+1) rest.toNat 0:Nat) nb) (R (S15 nb no nm (Hl rest (bst m rest.toNat (Bz rest (wi (0-rest))).toNat (rest.toNat+1) rest.toNat 0:Nat)) (wi (group+1)) b (Zr (bst m rest.toNat (Bz rest (wi (0-rest))).toNat (rest.toNat+1) rest.toNat 0) group no 0 o) m)) none) none) (K (.exit 2) (rJ no o)):=by kernel_rfl
end
theorem sH{r g:Nat}(h:g&&&r=g):(r^^^g)&&&r=r^^^g:=by
 apply Nat.eq_of_testBit_eq;intro i;have hi:=congrArg (fun x=>x.testBit i) h;simp only[Nat.testBit_and,Nat.testBit_xor]at hi⊢;cases h1:g.testBit i<;>cases h2:r.testBit i<;>simp_all
theorem LK{r g:Nat}(h:g&&&r=g):r^^^g<=r:=by rw[<-sH h];exact Nat.and_le_right
theorem sub_le{r g:Nat}(h:g&&&r=g):g<=r:=by rw[<-h];exact Nat.and_le_right
theorem WR(x:Nat)(hx:x<9223372036854775808):Bz (x:Int) (wi (0-(x:Int)))=((x&&&(18446744073709551616-x):Nat):Int):=by
 rw[Tc (by omega) (by omega),Int.zero_sub];by_cases h0:x=0
 ·subst h0;rfl
 ·have h1:(BitVec.ofInt 64 (-(x:Int))).toNat=18446744073709551616-x:=by
   rw[BitVec.toNat_ofInt];omega
  unfold Bz;have h:x&&&(18446744073709551616-x)<=x:=Nat.and_le_left;rw[BitVec.toNat_and,ofI x (by omega),h1];exact wrap64 (by omega) (by omega)
theorem qM(g h:Nat)(hg:g<4611686018427387904)(hh:h<4611686018427387904):bef (g:Int) (h:Int)=rC g h:=by
 unfold bef rC;have hx:g^^^h<2^62:=Nat.xor_lt_two_pow (by omega) (by omega);have hl:(g^^^h)&&&(18446744073709551616-(g^^^h))<=g^^^h:=Nat.and_le_left;rw[Xm g h (by omega) (by omega),WR _ (by omega),QI _ g (by omega) (by omega)];generalize(g^^^h)&&&(18446744073709551616-(g^^^h))&&&g=x;by_cases h0:x=0
 ·subst h0;rfl
 ·have hq:Nat.beq x 0=false:=by
   cases hx:Nat.beq x 0
   ·rfl
   ·exact absurd (AF hx) h0
  rw[hq];exact bne_iff_ne.mpr (by omega)
def in7(_nb n n':Nat)(m:Int):Bool:=n=n'∧m=n∧n<=60
def Ol(nm:Nat)(rest low best g:Int):Bool:=0<=rest∧rest<nm∧nm<=4611686018427387904∧0<=low∧low<4611686018427387904∧best=0∧g=rest
def O7(no:Nat)(best c:Int):Bool:=0<=best∧best<4611686018427387904∧c=no∧no<=60
def NC(nb no nm:Nat)(rest:Int)(o m:Row):Option Row:=if 0<=rest∧rest<nm∧nm<=4611686018427387904∧nb=no∧no<=60 then pI m no 64 rest.toNat 0 o else none
noncomputable def C3:Cx:=Xl in7 Ol O7 NC
theorem go7{f:St->(X->St->OD)->OD}{lv:List Tmp}{lx:Option (List Tmp)}{nb n:Nat}{b:Row}(hn:n<=60)
  (hr:∀(rest j:Int)(o:Row) R K,f (S7 nb n n n rest j b o) (BI lv lx R K)=br (decide (j<(n:Int))) (br (decide (0<=j)&&decide (j<(n:Int))) (br (decide (0<=j)&&decide (j<(n:Int))) (br (b.I (0+j.toNat) 0 !=0) (br (decide (j<0)) none (R (S7 nb n n n (bOr rest (wi (1*2^min j.toNat 64))) (wi (j+1)) b (o.setI (0+j.toNat) 0 (-1))))) (R (S7 nb n n n rest (wi (j+1)) b (o.setI (0+j.toNat) 0 (-1))))) none) none)
   (K (.exit 0) (yP nb n rest b o))) (K:X->St->OD):
  ∀(m fu j rest:Nat)(o:Row),j+m=n->m<fu->rest<2^j->rounds lv lx f fu (S7 nb n n n rest j b o) K=K (.exit 0) (yP nb n (Ns b m j (rest,o)).1 b (Ns b m j (rest,o)).2)
 |0,fu+1,j,rest,o,h0,h1,h2=>by
  rw[Df,hr,AB (show¬(j:Int)<(n:Int) by omega),Ac];rfl
 |m+1,fu+1,j,rest,o,h0,h1,h2=>by
  have hp:2^j<=2^60:=Nat.pow_le_pow_right (by decide) (by omega);have hp2:2^(j+1)=2*2^j:=by rw[Nat.pow_succ,Nat.mul_comm]
  have hor:rest|||2^j<2^(j+1):=Nat.or_lt_two_pow (by omega) (by omega);have hj:(decide (0<=(j:Int))&&decide ((j:Int)<(n:Int)))=true:=by simp only[A2,A3];omega
  have h2j:wi (1*2^min j 64)=((2^j:Nat):Int):=by
   rw[Nat.min_eq_left (by omega),Int.one_mul,show(2:Int)^j=((2^j:Nat):Int) by rw[Int.natCast_pow];rfl];generalize 2^j=x at hp⊢;exact Tc (by omega) (by omega)
  have hbo:bOr (rest:Int) ((2^j:Nat):Int)=((rest|||2^j:Nat):Int):=Ako _ _ (by omega) (by omega);rw[Df,hr,hj,A4 (show(j:Int)<(n:Int) by omega),Aa,Aa,Aa,A9,AE,Tc (n:=(j:Int)+1) (by omega) (by omega),show(j:Int)+1=((j+1:Nat):Int) by omega,h2j,hbo,AB (show¬(j:Int)<0 by omega),Ac];unfold Ns rsU;by_cases hb:b.I j 0=0
  ·rw[show(b.I j 0 !=0)=false by simpa using hb,Ac,AL (fun h=>h hb)];exact go7 hn hr K m fu (j+1) rest _ (by omega) (by omega) (by omega)
  ·rw[show(b.I j 0 !=0)=true by simpa using hb,Aa,AM hb];exact go7 hn hr K m fu (j+1) (rest|||2^j) _ (by omega) (by omega) hor
theorem Ahd{f:St->(X->St->OD)->OD}{lv:List Tmp}{lx:Option (List Tmp)}{nb no nm rest low:Nat}{group:Int}{b o m:Row}(hrest:rest<nm)(hnm:nm<=4611686018427387904)(hlow:low<4611686018427387904)
  (hr:∀(best g:Int) R K,f (VT nb no nm rest group low best g b o m) (BI lv lx R K)=
   br (decide (g>0)) (br (Bz g low==0) (R (VT nb no nm rest group low best (Bz (wi (g-1)) rest) b o m)) (br (decide (0<=g)&&decide (g<(nm:Int))) (br (decide (m.I (0+g.toNat) 0<1)) (R (VT nb no nm rest group low best (Bz (wi (g-1)) rest) b o m))
    (br (decide (0<=Hl rest g)&&decide (Hl rest g<(nm:Int))) (br (decide (0<=(rest:Int))&&decide ((rest:Int)<(nm:Int))) (br (m.I (0+(Hl rest g).toNat) 0 !=wi (m.I (0+(rest:Int).toNat) 0-1)) (R (VT nb no nm rest group low best (Bz (wi (g-1)) rest) b o m))
     (br (best==0) (R (VT nb no nm rest group low g (Bz (wi (g-1)) rest) b o m)) (br (bef g best) (R (VT nb no nm rest group low g (Bz (wi (g-1)) rest) b o m)) (R (VT nb no nm rest group low best (Bz (wi (g-1)) rest) b o m))))) none) none)) none))
    (K (.exit 4) (Ti nb no nm rest group best b o m))) (K:X->St->OD):
  ∀(n fu g best:Nat),g&&&rest=g->best<=rest->g<n->n<=fu->rounds lv lx f fu (VT nb no nm rest group low best g b o m) K=K (.exit 4) (Ti nb no nm rest group (bst m rest low n g best:Nat) b o m)
 |n+1,fu+1,g,best,h0,hbest,h1,h2=>by
  have hgs:=sub_le h0;have hxl:=LK h0;rw[Df,hr];unfold bst;by_cases hg:g=0
  ·rw[AM hg,AB (show¬(g:Int)>0 by omega),Ac]
  ·have hnext:Bz (wi ((g:Int)-1)) (rest:Int)=(((g-1)&&&rest:Nat):Int):=by
    rw[Tc (by omega) (by omega),show(g:Int)-1=((g-1:Nat):Int) by omega];exact QI _ _ (by omega) (by omega)
   have hle:(g-1)&&&rest<=g-1:=Nat.and_le_left;have hsub:((g-1)&&&rest)&&&rest=(g-1)&&&rest:=by rw[Nat.and_assoc,Nat.and_self]
   have ih:=fun best' hb'=>Ahd hrest hnm hlow hr K n fu ((g-1)&&&rest) best' hsub hb' (by omega) (by omega);have hgl:g&&&low<=g:=Nat.and_le_left;have hrng:(decide (0<=(rest:Int))&&decide ((rest:Int)<(nm:Int)))=true:=by simp only[A2,A3];omega
   rw[AL hg,A4 (show(g:Int)>0 by omega),Aa,hnext,QI g low (by omega) (by omega),Xm rest g (by omega) (by omega),A9,A9,A9,AE,AE,AE,hrng,
    show(decide (0<=(g:Int))&&decide ((g:Int)<(nm:Int)))=true by simp only[A2,A3];omega,
    show(decide (0<=((rest^^^g:Nat):Int))&&decide (((rest^^^g:Nat):Int)<(nm:Int)))=true by simp only[A2,A3];omega,Aa,Aa,Aa,qM g best (by omega) (by omega)]
   unfold QY;by_cases c1:g&&&low=0
   ·rw[c1,show(((0:Nat):Int)==0)=true from rfl,Aa,AM (.inl rfl)];exact ih best hbest
   ·rw[show(((g&&&low:Nat):Int)==0)=false from beq_eq_false_iff_ne.mpr (by omega),Ac];by_cases c2:m.I g 0<1
    ·rw[A4 c2,Aa,AM (.inr (.inl c2))];exact ih best hbest
    ·rw[AB c2,Ac];by_cases c3:m.I (rest^^^g) 0=wi (m.I rest 0-1)
     ·rw[show(m.I (rest^^^g) 0 !=wi (m.I rest 0-1))=false by simpa using c3,Ac,AL (by rintro(h|h|h);exact c1 h;exact c2 h;exact h c3)];by_cases c4:best=0
      ·rw[show((best:Int)==0)=true from beq_iff_eq.mpr (by omega),Aa,AM (.inl c4)];exact ih g hgs
      ·rw[show((best:Int)==0)=false from beq_eq_false_iff_ne.mpr (by omega),Ac];cases c5:rC g best
       ·rw[Ac,AL (by rintro(h|h);exact c4 h;exact absurd h (by decide))];exact ih best hbest
       ·rw[Aa,AM (.inr rfl)];exact ih g hgs
     ·rw[show(m.I (rest^^^g) 0 !=wi (m.I rest 0-1))=true by simpa using c3,Aa,AM (.inr (.inr c3))];exact ih best hbest
theorem Afd{f:St->(X->St->OD)->OD}{lv:List Tmp}{lx:Option (List Tmp)}{nb no nm best:Nat}{rest group:Int}{b m:Row}(hb:best<4611686018427387904)(hn:no<=60)
  (hr:∀(j:Int)(o:Row) R K,f (S26 nb no nm rest group best no j b o m) (BI lv lx R K)=br (decide (j<(no:Int))) (br (decide (j<0)) none (br (Bz (Vp best j) 1==1) (br (decide (0<=j)&&decide (j<(no:Int))) (R (S26 nb no nm rest group best no (wi (j+1)) b (o.setI (0+j.toNat) 0 group) m)) none) (R (S26 nb no nm rest group best no (wi (j+1)) b o m))))
   (K (.exit 6) (Ti nb no nm rest group best b o m))) (K:X->St->OD):
  ∀(k fu j:Nat)(o:Row),j+k=no->k<fu->rounds lv lx f fu (S26 nb no nm rest group best no j b o m) K=K (.exit 6) (Ti nb no nm rest group best b (Zr best group k j o) m)
 |0,fu+1,j,o,h0,h1=>by
  rw[Df,hr,AB (show¬(j:Int)<(no:Int) by omega),Ac];rfl
 |k+1,fu+1,j,o,h0,h1=>by
  rw[Df,hr,show(decide (0<=(j:Int))&&decide ((j:Int)<(no:Int)))=true by simp only[A2,A3];omega,A4 (show(j:Int)<(no:Int) by omega),Aa,AB (show¬(j:Int)<0 by omega),Ac,Ya best j (by omega) (by omega),
   Aa,A9,AE,Tc (n:=(j:Int)+1) (by omega) (by omega),show(j:Int)+1=((j+1:Nat):Int) by omega]
  unfold Zr;cases hbit:best.testBit j
  ·rw[Ac,AL (by decide)];exact Afd hb hn hr K k fu (j+1) o (by omega) (by omega)
  ·rw[Aa,AM rfl];exact Afd hb hn hr K k fu (j+1) _ (by omega) (by omega)
theorem XO{m:Row}{rest low:Nat}:∀(n g best:Nat),g&&&rest=g->best&&&rest=best->bst m rest low n g best&&&rest=bst m rest low n g best
 |0,g,best,_,h=>h
 |n+1,g,best,hg,hb=>by
  unfold bst;split
  ·exact hb
  ·refine XO n _ _ (by rw[Nat.and_assoc,Nat.and_self]) ?_;unfold QY;split
   ·exact hb
   ·split
    ·exact hg
    ·exact hb
theorem Ac2(s:Nat):KL s<=s:=Nat.and_le_left
theorem Ak0{f:St->(X->St->OD)->OD}{lv:List Tmp}{lx:Option (List Tmp)}{nb no nm:Nat}{b m:Row}(hnm:nm<=4611686018427387904)(hno:nb=no∧no<=60)
  (hr:∀(rest group:Int)(o:Row) R K,f (S15 nb no nm rest group b o m) (BI lv lx R K)=
   br (rest !=0) (br (Ol nm rest (Bz rest (wi (0-rest))) 0 rest)
    (br (O7 no (bst m rest.toNat (Bz rest (wi (0-rest))).toNat (rest.toNat+1) rest.toNat 0:Nat) nb)
     (R (S15 nb no nm (Hl rest (bst m rest.toNat (Bz rest (wi (0-rest))).toNat (rest.toNat+1) rest.toNat 0:Nat)) (wi (group+1)) b (Zr (bst m rest.toNat (Bz rest (wi (0-rest))).toNat (rest.toNat+1) rest.toNat 0) group no 0 o) m)) none) none)
    (K (.exit 2) (rJ no o))) (K:X->St->OD):
  ∀(k fu rest group:Nat)(o o':Row),pI m no k rest group o=some o'->k<fu->rest<nm->group+k<=1000->rounds lv lx f fu (S15 nb no nm rest group b o m) K=K (.exit 2) (rJ no o'):=by
 intro k
 induction k with
 |zero=>
  intro fu rest group o o' h hk _ _;obtain⟨fu,rfl⟩:∃fu',fu=fu'+1:=⟨fu-1,by omega⟩;unfold pI at h;split at h
  ·rename_i h0;cases h;rw[Df,hr,h0];rfl
  ·cases h
 |succ k ih=>
  intro fu rest group o o' h hk hrest hgr;obtain⟨fu,rfl⟩:∃fu',fu=fu'+1:=⟨fu-1,by omega⟩;unfold pI at h;by_cases h0:rest=0
  ·rw[AM h0]at h;cases h;rw[Df,hr,h0];rfl
  ·rw[AL h0]at h;have hs:=XO (m:=m) (low:=KL rest) (rest+1) rest 0 (Nat.and_self rest) (Nat.zero_and rest);have hl:=Ac2 rest;have hle:=sub_le hs;have hxl:=LK hs;rw[Df,hr,show((rest:Int) !=0)=true from bne_iff_ne.mpr (by omega),Aa,WR rest (by omega),show rest&&&(18446744073709551616-rest)=KL rest from rfl,A9,A9,
    show Ol nm rest (KL rest:Nat) 0 rest=true from A4 ⟨by omega,by omega,hnm,by omega,by omega,rfl,rfl⟩,Aa]
   generalize bst m rest (KL rest) (rest+1) rest 0=best at*
   rw[show O7 no (best:Nat) nb=true from A4 ⟨by omega,by omega,by omega,hno.2⟩,Aa,Xm rest best (by omega) (by omega),Tc (n:=(group:Int)+1) (by omega) (by omega),show(group:Int)+1=((group+1:Nat):Int) by omega];exact ih fu (rest^^^best) (group+1) _ o' h (by omega) (by omega) (by omega)
theorem ZZ:Ai C3 (l7 in7):=⟨by kernel_rfl,fun q its k rr h=>by
 show rounds [0,5,6,23,24,25] (some [0,2,3,5,6]) (Au C3 39 true (inl C3 (q+4)) (Bc C3.P 39 7)) 18446744073709551616 (Go.Ev.bst (l7 in7).p its) k=some rr;change G7 in7 its k=some rr at h;unfold G7 at h;split at h
 ·rename_i nb n n' m b o;rcases CO h with⟨h1,h2⟩|⟨_,h2⟩
  ·obtain⟨k1,k2,k3⟩:=AD h1;subst k1;subst k2;rw[<-h2];exact go7 (nb:=nb) (b:=b) k3 (fun rest j o R K=>QN in7 Ol O7 NC R K q nb n n n rest j b o) k n 18446744073709551616 0 0 o (by omega) (by omega) (by decide)
  ·cases h2
 ·cases h⟩
theorem Ado:Ai C3 (l20 Ol):=⟨by kernel_rfl,fun q its k rr h=>by
 show rounds [0,5,6,9,10,11,12,13] (some [0,2,3,5,6,9,10,12]) (Au C3 39 true (inl C3 (q+4)) (Bc C3.P 39 20)) 18446744073709551616 (Go.Ev.bst (l20 Ol).p its) k=some rr;change G20 Ol its k=some rr at h;unfold G20 at h;split at h
 ·rename_i nb no rest nm group low best g b o m;rcases CO h with⟨h1,h2⟩|⟨_,h2⟩
  ·obtain⟨k1,k2,k3,k4,k5,k6,k7⟩:=AD h1;obtain⟨rest,rfl⟩:=Int.eq_ofNat_of_zero_le k1;obtain⟨low,rfl⟩:=Int.eq_ofNat_of_zero_le k4;subst k6;subst k7;rw[<-h2,A9,A9];exact Ahd (nb:=nb) (no:=no) (group:=group) (b:=b) (o:=o) (m:=m) (by omega) k3 (by omega) (fun best g R K=>qU in7 Ol O7 NC R K q nb no nm rest group low best g b o m) k (rest+1) 18446744073709551616 rest 0 (Nat.and_self rest) (by omega) (by omega) (by omega)
  ·cases h2
 ·cases h⟩
theorem Ah6:Ai C3 (l26 O7):=⟨by kernel_rfl,fun q its k rr h=>by
 show rounds [0,5,6,9,10,12,91,92] (some [0,2,3,5,6,9,10,12]) (Au C3 39 true (inl C3 (q+4)) (Bc C3.P 39 26)) 18446744073709551616 (Go.Ev.bst (l26 O7).p its) k=some rr;change G26 O7 its k=some rr at h;unfold G26 at h;split at h
 ·rename_i nb no rest nm group best c b o m;rcases CO h with⟨h1,h2⟩|⟨_,h2⟩
  ·obtain⟨k1,k2,k3,k4⟩:=AD h1;obtain⟨best,rfl⟩:=Int.eq_ofNat_of_zero_le k1;subst k3;rw[<-h2,A9];exact Afd (nb:=nb) (nm:=nm) (rest:=rest) (group:=group) (b:=b) (m:=m) (by omega) k4 (fun j o R K=>uT in7 Ol O7 NC R K q nb no nm rest group best no j b o m) k no 18446744073709551616 0 o (by omega) (by omega)
  ·cases h2
 ·cases h⟩
theorem Afr:Ai C3 (l15 NC):=⟨by kernel_rfl,fun q its k rr h=>by
 show rounds [0,5,6,9,10] (some [2,3,5]) (Au C3 39 true (inl C3 (q+4)) (Bc C3.P 39 15)) 18446744073709551616 (Go.Ev.bst (l15 NC).p its) k=some rr;change G15 NC its k=some rr at h;unfold G15 at h;split at h
 ·rename_i nb no rest nm b o m;split at h
  ·rename_i o' hgs;unfold NC at hgs;split at hgs
   ·rename_i hc;obtain⟨k1,k2,k3,k4,k5⟩:=hc;obtain⟨rest,rfl⟩:=Int.eq_ofNat_of_zero_le k1;rw[<-h];exact Ak0 (b:=b) (m:=m) k3 ⟨k4,k5⟩ (fun rest group o R K=>uN in7 Ol O7 NC R K q nb no nm rest group b o m) k 64 18446744073709551616 rest 0 o o' (by rw[A9]at hgs;exact hgs) (by omega) (by omega) (by omega)
   ·cases hgs
  ·cases h
 ·cases h⟩
theorem Ajp:P8 C3 Wt:=CP enter mixed (fun p h=>by
 simp only[A8,A7,or_false]at h;rcases h with rfl|rfl
 ·exact den_ck.at _
 ·exact oH) (fun l h=>by
 simp only[A8,A7,or_false]at h;rcases h with rfl|rfl|rfl|rfl
 ·exact ZZ
 ·exact Ado
 ·exact Ah6
 ·exact Afr)
theorem wM(c7:Nat->Nat->Nat->Int->Bool)(c20:Nat->Int->Int->Int->Int->Bool)(c26:Nat->Int->Int->Bool)(gs:Nat->Nat->Nat->Int->Row->Row->Option Row)(b:Row):BZ (Xl c7 c20 c26 gs) 6 39 [.slice Ha b]=br (ckE (w_ b 0 b.n) !=0) (some [.slice [.int .i64] Row.nil,.v (i64 (ckE (w_ b 0 b.n)))]) (br (0<=(b.n:Int)&&(b.n:Int)<=(b.n:Int)&&(b.n:Int)<=100000000000) (br (c7 b.n (b.n:Int).toNat b.n b.n) (br ((w_ b 0 b.n).n<=20) (match gs b.n (b.n:Int).toNat (Fg (w_ b 0 b.n)).n (Ns b (b.n:Int).toNat 0 (0,Row.zeros (b.n:Int).toNat)).1 (Ns b (b.n:Int).toNat 0 (0,Row.zeros (b.n:Int).toNat)).2 (Fg (w_ b 0 b.n))with|some o'=>some [.slice Ha (w_ o' 0 (b.n:Int).toNat),.v (i64 0)]|none=>none) none) none) none):=by kernel_rfl
theorem KP{b:Row}(h:0<b.n):w_ b 0 b.n=b:=by
 cases b with
 |nil=>cases h
 |mk n I B S R=>rfl
theorem RX(b:Row):ckE (w_ b 0 b.n)=ckE b:=by
 by_cases h:0<b.n
 ·rw[KP h]
 ·have h0:b.n=0:=by omega
  have h1:(w_ b 0 b.n).n=0:=h0;unfold ckE;rw[AM (by omega),AM (by omega)]
theorem Vz(b:Row):∀(m j:Nat)(x:Nat×Row),x.1<2^j->(Ns b m j x).1<2^(j+m)
 |0,j,x,h=>h
 |m+1,j,x,h=>by
  unfold Ns;rw[show j+(m+1)=(j+1)+m by omega];refine Vz b m (j+1) _ ?_;have hp2:2^(j+1)=2*2^j:=by rw[Nat.pow_succ,Nat.mul_comm]
  unfold rsU;dsimp only;split
  ·exact Nat.or_lt_two_pow (by omega) (by omega)
  ·omega
def gpO(b:Row):Option Row:=pI (Fg b) b.n 64 (Ns b b.n 0 (0,Row.zeros b.n)).1 0 (Ns b b.n 0 (0,Row.zeros b.n)).2
def gpC(b:Row):Bool:=ckE b !=0||(gpO b).isSome
def gpR(b:Row):Row:=if ckE b≠0 then .nil else match gpO b with|some o=>w_ o 0 b.n|none=>.nil
def RY:FD
 |[.slice [.int .i64] b]=>some (gpC b,[.slice Ha (gpR b),.v (i64 (ckE b))])
 |_=>none
theorem den_groups:DenW Tryz.prog Wt 39 RY:=DR Ajp fun ds rs h=>by
 unfold RY at h;split at h
 ·rename_i b;simp only[A5,A6]at h;obtain⟨hc,rfl⟩:=h;refine(wM in7 Ol O7 NC b).trans ?_;rw[RX];unfold gpR;by_cases hk:ckE b=0
  ·have hn:1<=b.n∧b.n<=10:=by
    unfold ckE at hk;split at hk
    ·cases hk
    ·omega
   have hp:2^b.n<=2^10:=Nat.pow_le_pow_right (by decide) hn.2;have hlt:=Vz b b.n 0 (0,Row.zeros b.n) (show 0<2^0 by decide);rw[AE]at hlt;unfold gpC at hc;rw[show(ckE b !=0)=false by simpa using hk,Bool.false_or]at hc;rw[show(ckE b !=0)=false by simpa using hk,Ac,KP (by omega),A9,show(decide (0<=(b.n:Int))&&decide ((b.n:Int)<=(b.n:Int))&&decide ((b.n:Int)<=100000000000))=true by simp only[A2,A3];omega,Aa,
    show in7 b.n b.n b.n b.n=true from A4 ⟨rfl,rfl,by omega⟩,Aa,A4 (show b.n<=20 by omega),Aa,AL (fun h=>h hk)]
   have hm:(Fg b).n=2^b.n:=rfl;have hg:NC b.n b.n (Fg b).n (Ns b b.n 0 (0,Row.zeros b.n)).1 (Ns b b.n 0 (0,Row.zeros b.n)).2 (Fg b)=gpO b:=by
    unfold NC gpO;rw[hm,AM ⟨by omega,by omega,by omega,rfl,by omega⟩,A9]
   rw[hg];cases ho:gpO b with
   |none=>rw[ho]at hc;cases hc
   |some o=>rw[hk]
  ·rw[show(ckE b !=0)=true by simpa using hk,Aa,AM hk];rfl
 ·cases h
end Go.Proofs.YtnljjjghpgdmoaaGreatDoor.Ld
namespace Go.Proofs.YtnljjjghpgdmoaaGreatDoor.Ld.Lg
open Go.Ev
def ks3:List CK:=[.int .i64,.int .i64,.int .i64]
def pay(n:Int)(r:Row):List D:=[.v (i64 n),.slice ks3 r]
def isB(n p:Int):Bool:=decide (p>=0)&&decide (p<n)
def bad(n:Int)(r:Row)(j:Nat):Bool:= !isB n (r.I j 0)|| !isB n (r.I j 1)||r.I j 0==r.I j 1||decide (r.I j 2<1)||decide (r.I j 2>1000000000)
def partiesB(n:Int):Bool:=decide (n>=1)&&decide (n<=10)
def chk(n:Int)(r:Row):Int:=bif partiesB n then(bif (r.n:Int)>200 then 4 else bif Ap (bad n r) r.n 0 then 8 else 0)else 2
def S7(n:Int)(len:Nat)(l j:Int)(r:Row):St:={τ:=[i64 n]++us 15++[S_ 0 0 len,i64 l,i64 j]++us 29,saved:=[[]],mem:=[some (.row ks3 false r)]}
def vW:St:={τ:=us 4++[i64 8]++us 43,saved:=[[]],mem:=[]}
def yP:St:={τ:=us 48,saved:=[[]],mem:=[]}
def G7:List It->(X->St->OD)->OD
 |[.i n,.n len,.i l,.r r],k=>br (decide (l=(len:Int))&&decide (len<=1000)) (br (Ap (bad n r) len 0) (k .ret vW) (k (.exit 0) yP)) none
 |_,_=>none
def l7:LoopC where
 f:=40
 id:=7
 lv:=[0,16,17,18]
 lx:=[4]
 p:={τ:=[.v (.int .i64)]++pu 15++[.v (.sl 0),.v (.int .i64),.v (.c (i64 0))]++pu 29,saved:=[[]],mem:=[.row ks3 false]}
 G:=G7
noncomputable def C7:Cx:=AU Tryz.prog fns [] [l7]
theorem QN(d:Nat)(R:St->OD)(K:X->St->OD)(n:Int)(len:Nat)(l:Int)(j:Nat)(r:Row):Au C7 40 true (inl C7 (d+4)) (Bc C7.P 40 7) (S7 n len l j r) (BI [0,16,17,18] (some [4]) R K)=br ((j:Int)<l) (br (0<=(j:Int)&&(j:Int)<len) (br (r.I (0+j) 0>=0) (br (!decide (r.I (0+j) 0<n)) (K .ret vW) (br (r.I (0+j) 1>=0) (br (!decide (r.I (0+j) 1<n)) (K .ret vW) (br (r.I (0+j) 0==r.I (0+j) 1) (K .ret vW) (br (r.I (0+j) 2>=1) (br (!decide (r.I (0+j) 2<=1000000000)) (K .ret vW) (R (S7 n len l (IntKind.i64.wrap (j+1)) r))) (K .ret vW)))) (K .ret vW))) (K .ret vW)) none) (K (.exit 0) yP):=by kernel_rfl
theorem eP{A:Type}(n:Int)(r:Row)(j:Nat)(x y:Option A):
  (br (decide (r.I (0+j) 0>=0)) (br (!decide (r.I (0+j) 0<n)) x
    (br (decide (r.I (0+j) 1>=0)) (br (!decide (r.I (0+j) 1<n)) x
     (br (r.I (0+j) 0==r.I (0+j) 1) x
      (br (decide (r.I (0+j) 2>=1)) (br (!decide (r.I (0+j) 2<=1000000000)) x y) x))) x)) x)=br (bad n r j) x y:=by
 rw[AE];have e1:decide (r.I j 2<1)= !decide (r.I j 2>=1):=by rw[Bool.eq_iff_iff];simp only[Bool.not_eq_true',A3,decide_eq_false_iff_not];omega
 have e2:decide (r.I j 2>1000000000)= !decide (r.I j 2<=1000000000):=by rw[Bool.eq_iff_iff];simp only[Bool.not_eq_true',A3,decide_eq_false_iff_not];omega
 unfold bad isB;rw[e1,e2];cases decide (r.I j 0>=0)<;>cases decide (r.I j 0<n)<;>cases decide (r.I j 1>=0)<;>cases decide (r.I j 1<n)<;>cases(r.I j 0==r.I j 1)<;>cases decide (r.I j 2>=1)<;>cases decide (r.I j 2<=1000000000)<;>rfl
theorem ZZ:Ai C7 l7:=⟨by kernel_rfl,fun d its k rr h=>by
 show rounds [0,16,17,18] (some [4]) (Au C7 40 true (inl C7 (d+4)) (Bc C7.P 40 7)) 18446744073709551616 (Go.Ev.bst l7.p its) k=some rr;change G7 its k=some rr at h;unfold G7 at h;split at h
 ·rename_i n len l r;rcases CO h with⟨h1,h2⟩|⟨_,h2⟩
  ·simp only[A2,A3]at h1;obtain⟨rfl,h1⟩:=h1;rw[<-h2];exact Nk (S:=fun j=>S7 n len len j r) (len:=len) (bad:=bad n r) (Kb:=fun K=>K .ret vW) (Ke:=fun K=>K (.exit 0) yP)
    (fun j hj R K=>by
     rw[QN,wrap64 (by omega) (by omega),show decide ((j:Int)<(len:Int))=true by simpa using hj,show(decide (0<=(j:Int)))=true by simp];simp only[Bool.and_true,Aa];exact eP n r j _ _)
    (fun R K=>by
     rw[QN,show decide ((len:Int)<(len:Int))=false by simp];rfl) k len 0 (by omega) _ (by omega)
  ·cases h2
 ·cases h⟩
theorem mO:Bi C7:=Aq enter mixed (fun p h=>by cases h) (fun l h=>by
 simp only[List.mem_singleton]at h;subst h;exact ZZ)
def F7:FD
 |[.v (.int .i64 n),.slice [.int .i64,.int .i64,.int .i64] r]=>some (true,[.v (i64 (chk n r))])
 |_=>none
theorem t7(n:Int)(r:Row):BZ C7 6 40 (pay n r)=br (n<1) (some [.v (i64 2)]) (br (n>10) (some [.v (i64 2)]) (br ((r.n:Int)>200) (some [.v (i64 4)]) (br ((r.n:Int)=(r.n:Int)&&r.n<=1000) (br (Ap (bad n r) r.n 0) (some [.v (i64 8)]) (some [.v (i64 0)])) none))):=by kernel_rfl
theorem dB(n:Int)(r:Row){A:Type}(g:Int->Option A):(br (decide (n<1)) (g 2) (br (decide (n>10)) (g 2) (br (decide ((r.n:Int)>200)) (g 4)
   (br (decide ((r.n:Int)=(r.n:Int))&&decide (r.n<=1000)) (br (Ap (bad n r) r.n 0) (g 8) (g 0)) none))))=g (chk n r):=by
 have e1:decide (n<1)= !decide (n>=1):=by rw[Bool.eq_iff_iff];simp only[Bool.not_eq_true',A3,decide_eq_false_iff_not];omega
 have e2:decide (n>10)= !decide (n<=10):=by rw[Bool.eq_iff_iff];simp only[Bool.not_eq_true',A3,decide_eq_false_iff_not];omega
 have e3:decide ((r.n:Int)>200)=false->(decide ((r.n:Int)=(r.n:Int))&&decide (r.n<=1000))=true:=by intro h;simp at h⊢;omega
 unfold chk partiesB;rw[e1,e2];cases h:decide ((r.n:Int)>200)
 ·rw[e3 h];cases decide (n>=1)<;>cases decide (n<=10)<;>cases Ap (bad n r) r.n 0<;>rfl
 ·cases decide (n>=1)<;>cases decide (n<=10)<;>rfl
theorem den7:Den Tryz.prog 40 F7:=Ag mO fun ds rs h=>by
 unfold F7 at h;split at h
 ·rename_i n r;cases h;exact(t7 n r).trans (dB n r fun e=>some [D.v (i64 e)])
 ·cases h
end Go.Proofs.YtnljjjghpgdmoaaGreatDoor.Ld.Lg
namespace Go.Proofs.YtnljjjghpgdmoaaGreatDoor.Ld.Mk
open Go.Ev
def sM(f:Nat->Int)(s:Nat):Nat->Int
 |0=>0
 |n+1=>sM f s n+if s.testBit n=true then f n else 0
theorem Ia{g s:Nat}(h:g&&&s=g){i:Nat}(hi:g.testBit i=true):s.testBit i=true:=by
 have:=congrArg (fun x=>x.testBit i) h;simp only[Nat.testBit_and,hi,Bool.true_and]at this;exact this
theorem QP{f:Nat->Int}:∀{n:Nat},sM f 0 n=0
 |0=>rfl
 |n+1=>by unfold sM;rw[QP (n:=n),Nat.zero_testBit];rfl
theorem lL{f:Nat->Int}{s h:Nat}(hs:h&&&s=h):∀{n:Nat},sM f (s^^^h) n=sM f s n-sM f h n
 |0=>rfl
 |n+1=>by
  unfold sM;rw[lL hs (n:=n),Nat.testBit_xor];cases h1:h.testBit n
  ·cases h2:s.testBit n<;>simp<;>omega
  ·rw[Ia hs h1];simp;omega
theorem Z8{f:Nat->Int}{s t k:Nat}(h:∀i,t.testBit i=(s.testBit i&&decide (i≠k)))(hk:s.testBit k=true):∀{n:Nat},sM f s n=sM f t n+if k<n then f k else 0
 |0=>by simp[sM]
 |n+1=>by
  unfold sM;rw[Z8 h hk (n:=n),h n];by_cases hn:n=k
  ·subst hn;rw[hk,AL (show¬n<n by omega),AM (show n<n+1 by omega)];simp
  ·rw[A4 hn,Bool.and_true];by_cases hkn:k<n
   ·rw[AM hkn,AM (show k<n+1 by omega)];omega
   ·rw[AL hkn,AL (show¬k<n+1 by omega)];omega
theorem zS{f:Nat->Int}{s:Nat}:∀{n:Nat},(∀i,i<n-> -1000000000<=f i∧f i<=1000000000)-> -1000000000*(n:Int)<=sM f s n∧sM f s n<=1000000000*(n:Int)
 |0,_=>by simp[sM]
 |n+1,h=>by
  unfold sM;have h1:=zS (f:=f) (s:=s) (n:=n) (fun i hi=>h i (by omega));have h2:=h n (by omega);split<;>omega
theorem O1:∀(n s g h:Nat),g<=n->g&&&s=g->h&&&s=h->h<g->h<=(g-1)&&&s
 |0,s,g,h,hn,_,_,hlt=>by omega
 |n+1,s,g,h,hn,hg,hh,hlt=>by
  have hg2:g/2&&&s/2=g/2:=by rw[<-Nat.and_div_two,hg]
  have hh2:h/2&&&s/2=h/2:=by rw[<-Nat.and_div_two,hh]
  have ht:((g-1)&&&s)/2=(g-1)/2&&&s/2:=Nat.and_div_two;have ho:((g-1)&&&s)%2=1↔(g-1)%2=1∧s%2=1:=Nat.and_mod_two_eq_one;have hs:h%2=1->s%2=1:=fun h1=>by
   have:(h&&&s)%2=1:=by rw[hh];exact h1
   exact(Nat.and_mod_two_eq_one.1 this).2
  generalize hT:(g-1)&&&s=T at ht ho;rcases Nat.mod_two_eq_zero_or_one g with h0|h1
  ·rw[show(g-1)/2=g/2-1 by omega]at ht;have ih:=O1 n (s/2) (g/2) (h/2) (by omega) hg2 hh2 (by omega);rw[<-ht]at ih;rcases Nat.mod_two_eq_zero_or_one h with h2|h2
   ·omega
   ·have:=ho.2 ⟨by omega,hs h2⟩;omega
  ·rw[show(g-1)/2=g/2 by omega,hg2]at ht;omega
theorem JC{s h:Nat}(h0:h≠0):s^^^h≠s:=fun he=>h0 (by
 have:=congrArg (fun x=>s^^^x) he;simp only[<-Nat.xor_assoc,Nat.xor_self,Nat.zero_xor]at this;exact this)
theorem TJ{s:Nat}(h0:s≠0)(h1:s<2^62):s.testBit (EZ s)=true∧(∀i,i<EZ s->s.testBit i=false)∧∀i,(s&&&(s-1)).testBit i=(s.testBit i&&decide (i≠EZ s)):=by
 have hs:s<2^64:=by omega
 obtain⟨m,e1,e2⟩:=Lib.ctzFrom_spec 64 s (by omega) hs;have hk:EZ s=Lib.ctzFrom 64 s:=by unfold EZ Lib.ctz;rw[AL h0]
 rw[<-hk]at e1 e2;generalize EZ s=k at e1 e2⊢;have hp:0<2^k:=Nat.two_pow_pos k;have hb:∀i,s.testBit i=if i<k then false else(2*m+1).testBit (i-k):=fun i=>by
  have:=Nat.testBit_two_pow_mul_add (2*m+1) (b:=0) (i:=k) hp i;rw[Nat.add_zero,<-e1]at this;rw[this];simp
 have hs1:s-1=2^k*(2*m)+(2^k-1):=by rw[e1,Nat.mul_add,Nat.mul_one];omega
 have hb1:∀i,(s-1).testBit i=if i<k then(2^k-1).testBit i else(2*m).testBit (i-k):=fun i=>by
  rw[hs1];exact Nat.testBit_two_pow_mul_add (2*m) (b:=2^k-1) (i:=k) (by omega) i
 refine⟨?_,fun i hi=>?_,fun i=>?_⟩
 ·rw[hb,AL (by omega),Nat.sub_self,Nat.testBit_zero];exact A4 (by omega)
 ·rw[hb,AM hi]
 ·rw[Nat.testBit_and,hb,hb1];by_cases c:i<k
  ·rw[AM c];rfl
  ·rw[AL c,AL c];by_cases c2:i=k
   ·subst c2;rw[Nat.sub_self,Nat.testBit_zero,Nat.testBit_zero,AB (show¬i≠i from fun h=>h rfl),Bool.and_false,AB (show¬2*m%2=1 by omega),Bool.and_false]
   ·obtain⟨d,hd⟩:∃d,i-k=d+1:=⟨i-k-1,by omega⟩;rw[hd,Nat.testBit_succ,Nat.testBit_succ,show(2*m+1)/2=m by omega,show 2*m/2=m by omega,A4 c2,Bool.and_true,Bool.and_self]
theorem Gp(r:Row)(s:Nat)(x:Int):(r.setI s 0 x).I s 0=x:=by
 show(bif Nat.beq s s&&Nat.beq 0 0 then x else _)=x;rw[Nat.beq_refl];rfl
theorem KR{r:Row}{e j s:Nat}{x:Int}(h:e≠s):(r.setI s 0 x).I e j=r.I e j:=by
 show(bif Nat.beq e s&&Nat.beq j 0 then x else _)=_;have:Nat.beq e s=false:=by
  cases hb:Nat.beq e s
  ·rfl
  ·exact absurd (AF hb) h
 rw[this];rfl
theorem inn{sm:Row}{s low:Nat}:∀(n g:Nat)(ou:Row),g&&&s=g->g<n->
  (∀e j,e≠s->(KX sm s low n g ou).I e j=ou.I e j)∧ou.I s 0<=(KX sm s low n g ou).I s 0∧
  (∀h,h≠0->h&&&s=h->h<=g->h.testBit low=true->h≠s->sm.I h 0=0->wi (1+ou.I (s^^^h) 0)<=(KX sm s low n g ou).I s 0)∧
  ((KX sm s low n g ou).I s 0=ou.I s 0∨∃h,h≠0∧h&&&s=h∧h.testBit low=true∧h≠s∧sm.I h 0=0∧(KX sm s low n g ou).I s 0=wi (1+ou.I (s^^^h) 0))
 |n+1,g,ou,hg,hn=>by
  unfold KX;by_cases h0:g=0
  ·rw[AM h0];exact⟨fun _ _ _=>rfl,Int.le_refl _,fun h a b c=>by omega,.inl rfl⟩
  ·rw[AL h0];have hle:(g-1)&&&s<=g-1:=Nat.and_le_left;have hsub:((g-1)&&&s)&&&s=(g-1)&&&s:=by rw[Nat.and_assoc,Nat.and_self]
   obtain⟨i1,i2,i3,i4⟩:=inn (sm:=sm) (s:=s) (low:=low) n ((g-1)&&&s) (Zo sm s low g ou) hsub (by omega);have u1:∀e j,e≠s->(Zo sm s low g ou).I e j=ou.I e j:=fun e j he=>by
    unfold Zo;split
    ·exact KR he
    ·rfl
   have u2:ou.I s 0<=(Zo sm s low g ou).I s 0:=by
    unfold Zo;split
    ·rw[Gp];split<;>omega
    ·exact Int.le_refl _
   have u3:g.testBit low=true->g≠s->sm.I g 0=0->wi (1+ou.I (s^^^g) 0)<=(Zo sm s low g ou).I s 0:=fun a b c=>by
    unfold Zo;rw[AM ⟨a,b,c⟩,Gp];split<;>omega
   have u4:(Zo sm s low g ou).I s 0=ou.I s 0∨(g.testBit low=true∧g≠s∧sm.I g 0=0∧(Zo sm s low g ou).I s 0=wi (1+ou.I (s^^^g) 0)):=by
    unfold Zo;split
    ·rename_i hc;rw[Gp];split
     ·exact .inr ⟨hc.1,hc.2.1,hc.2.2,rfl⟩
     ·exact .inl rfl
    ·exact .inl rfl
   refine⟨fun e j he=>(i1 e j he).trans (u1 e j he),Int.le_trans u2 i2,fun h a b c d e f=>?_,?_⟩
   ·by_cases hgh:h=g
    ·subst hgh;exact Int.le_trans (u3 d e f) i2
    ·have:=i3 h a b (O1 g s g h (AC _) hg b (by omega)) d e f;rw[u1 _ 0 (JC a)]at this;exact this
   ·rcases i4 with h|⟨h,a,b,c,d,e,f⟩
    ·rcases u4 with h'|⟨a,b,c,d⟩
     ·exact .inl (h.trans h')
     ·exact .inr ⟨g,h0,hg,a,b,c,h.trans d⟩
    ·rw[u1 _ 0 (JC a)]at f;exact .inr ⟨h,a,b,c,d,e,f⟩
def bF(b:Row):Nat->Int:=fun i=>b.I i 0
def Sg(b:Row)(s:Nat):Int:=sM (bF b) s b.n
def Fit(b:Row):Prop:=b.n<=10∧∀i,i<b.n-> -1000000000<=b.I i 0∧b.I i 0<=1000000000
theorem Fit.sum{b:Row}(h:Fit b)(s:Nat): -10000000000<=Sg b s∧Sg b s<=10000000000:=by
 have h1:=h.1;have:=zS (f:=bF b) (s:=s) (n:=b.n) h.2;unfold Sg;omega
structure Good(b:Row)(o:Nat->Int)(t:Nat):Prop where
 zero:t=0->o t=0
 neg:t≠0->Sg b t≠0->o t= -1
 pos:t≠0->Sg b t=0->1<=o t∧o t<=t
 step:t≠0->Sg b t=0->∀h,h≠0->h&&&t=h->h≠t->h.testBit (EZ t)=true->Sg b h=0->1+o (t^^^h)<=o t
 att:t≠0->Sg b t=0->o t=1∨∃h,h≠0∧h&&&t=h∧h≠t∧h.testBit (EZ t)=true∧Sg b h=0∧o t=1+o (t^^^h)
theorem Good.congr{b:Row}{o o':Nat->Int}{t:Nat}(h:Good b o t)(he:∀t',t'<=t->o' t'=o t'):Good b o' t where
 zero:=fun h0=>by rw[he t (AC _)];exact h.zero h0
 neg:=fun h0 h1=>by rw[he t (AC _)];exact h.neg h0 h1
 pos:=fun h0 h1=>by rw[he t (AC _)];exact h.pos h0 h1
 step:=fun h0 h1 g a c d e f=>by rw[he t (AC _),he _ (LK c)];exact h.step h0 h1 g a c d e f
 att:=fun h0 h1=>by
  rw[he t (AC _)];rcases h.att h0 h1 with h2|⟨g,a,c,d,e,f,k⟩
  ·exact .inl h2
  ·exact .inr ⟨g,a,c,d,e,f,by rw[he _ (LK c)];exact k⟩
theorem Good.bound{b:Row}{o:Nat->Int}{t:Nat}(h:Good b o t): -1<=o t∧o t<=t:=by
 by_cases h0:t=0
 ·have:=h.zero h0;omega
 ·by_cases h1:Sg b t=0
  ·have:=h.pos h0 h1;omega
  ·have:=h.neg h0 h1;omega
theorem jQ{s h:Nat}(hs:h&&&s=h)(h0:h≠0):s^^^h<s:=by
 have:=LK hs;have:=JC (s:=s) h0;omega
theorem sub_lt{s h:Nat}(hs:h&&&s=h)(h0:h≠s):h<s:=by
 have:=sub_le hs;omega
theorem Acb{b:Row}(hf:Fit b){s:Nat}(h0:s≠0)(h1:s<2^b.n):Sg b s=Sg b (s&&&(s-1))+b.I (EZ s) 0:=by
 have hf1:=hf.1;have hp:2^b.n<=2^10:=Nat.pow_le_pow_right (by decide) hf1;obtain⟨k1,k2,k3⟩:=TJ h0 (by omega);have hk:=dP s b.n (by omega) h1 (by omega);unfold Sg;rw[Z8 k3 k1,AM hk];rfl
theorem UN{b:Row}(hf:Fit b):∀(m s:Nat)(sm ou:Row),0<s->s+m=2^b.n->(∀t,t<s->sm.I t 0=Sg b t)->(∀t,t<s->Good b (fun t=>ou.I t 0) t)->
  ∀t,t<2^b.n->Good b (fun t=>(RF b m s sm ou).I t 0) t
 |0,s,sm,ou,h0,hs,h1,h2,t,ht=>by unfold RF;exact h2 t (by omega)
 |m+1,s,sm,ou,h0,hs,h1,h2,t,ht=>by
  have hp:2^b.n<=2^10:=Nat.pow_le_pow_right (by decide) hf.1;have hsl:s<2^b.n:=by omega
  have hlow:s&&&(s-1)<s:=by
   have:s&&&(s-1)<=s-1:=Nat.and_le_right;omega
  have hsm:∀t,t<s+1->(pM b s sm).I t 0=Sg b t:=fun t ht=>by
   unfold pM;by_cases hts:t=s
   ·subst hts;have:=hf.sum t;rw[Gp,h1 _ hlow];rw[Acb hf (by omega) hsl]at this⊢;exact Tc (by omega) (by omega)
   ·rw[KR hts];exact h1 t (by omega)
  unfold RF;refine UN hf m (s+1) _ _ (by omega) (by omega) hsm (fun t ht=>?_) t ht;have hss:(pM b s sm).I s 0=Sg b s:=hsm s (by omega);unfold ouU;rw[hss];by_cases hz:Sg b s=0
  ·rw[AL (fun h=>h hz)];obtain⟨i1,i2,i3,i4⟩:=inn (sm:=pM b s sm) (s:=s) (low:=EZ s) (s+1) s ((ou.setI s 0 (-1)).setI s 0 1) (Nat.and_self s) (by omega);rw[Gp]at i2 i4;have i5:∀e,e≠s->(KX (pM b s sm) s (EZ s) (s+1) s ((ou.setI s 0 (-1)).setI s 0 1)).I e 0=ou.I e 0:=fun e he=>by
    rw[i1 e 0 he,KR he,KR he]
   by_cases hts:t=s
   ·subst hts;have hw:∀h,h≠0->h&&&t=h->wi (1+((ou.setI t 0 (-1)).setI t 0 1).I (t^^^h) 0)=1+ou.I (t^^^h) 0∧ou.I (t^^^h) 0<=((t^^^h:Nat):Int)∧t^^^h<t:=fun h a c=>by
     rw[KR (JC a),KR (JC a)];have hx:=jQ c a;have hB:=(h2 _ hx).bound;exact⟨Tc (by omega) (by omega),hB.2,hx⟩
    refine⟨fun h=>by omega,fun _ h=>absurd hz h,fun _ _=>⟨i2,?_⟩,fun _ _ h a c d e f=>?_,fun _ _=>?_⟩
    ·skip
     rcases i4 with h|⟨h,a,c,d,e,f,k⟩
     ·rw[h];omega
     ·obtain⟨w1,w2,w3⟩:=hw h a c;rw[w1]at k;omega
    ·skip
     have:=i3 h a c (sub_le c) e d (by rw[hsm h (by have:=sub_lt c d;omega)];exact f);rw[(hw h a c).1]at this;rw[i5 _ (JC a)];exact this
    ·skip
     rcases i4 with h|⟨h,a,c,d,e,f,k⟩
     ·exact .inl h
     ·refine .inr ⟨h,a,c,e,d,?_,?_⟩
      ·rw[<-hsm h (by have:=sub_lt c e;omega)];exact f
      ·rw[i5 _ (JC a),<-(hw h a c).1];exact k
   ·exact(h2 t (by omega)).congr fun t' ht'=>i5 t' (by omega)
  ·rw[AM hz];by_cases hts:t=s
   ·subst hts;exact⟨fun h=>by omega,fun _ _=>Gp _ _ _,fun _ h=>absurd h hz,fun _ h=>absurd h hz,fun _ h=>absurd h hz⟩
   ·exact(h2 t (by omega)).congr fun t' ht'=>KR (by omega)
def mN(b:Row)(s:Nat):Int:=(Fg b).I s 0
theorem Dj{b:Row}(hf:Fit b){t:Nat}(ht:t<2^b.n):Good b (mN b) t:=by
 have hp:0<2^b.n:=Nat.two_pow_pos _;exact UN hf (2^b.n-1) 1 _ _ (by omega) (by omega) (fun t ht=>by
  obtain rfl:t=0:=by omega
  unfold Sg;rw[QP];rfl) (fun t ht=>by
  obtain rfl:t=0:=by omega
  exact⟨fun _=>rfl,fun h=>absurd rfl h,fun h=>absurd rfl h,fun h=>absurd rfl h,fun h=>absurd rfl h⟩) t ht
def kH(c:Nat->Nat)(s q:Nat):Nat->Nat
 |0=>0
 |n+1=>if s.testBit n=true∧c n=q then kH c s q n|||2^n else kH c s q n
theorem Jb(c:Nat->Nat)(s q i:Nat):∀n,(kH c s q n).testBit i=(decide (i<n)&&(s.testBit i&&decide (c i=q)))
 |0=>by simp[kH]
 |n+1=>by
  unfold kH;by_cases hi:i=n
  ·subst hi;split
   ·rename_i h;rw[Nat.testBit_or,Nat.testBit_two_pow,h.1,A4 h.2,A4 (show i<i+1 by omega)];simp
   ·rename_i h;rw[Jb c s q i i,AB (show¬i<i by omega),Bool.false_and,A4 (show i<i+1 by omega),Bool.true_and];cases h1:s.testBit i
    ·rfl
    ·rw[AB (fun h2=>h ⟨h1,h2⟩)];rfl
  ·have e:decide (i<n+1)=decide (i<n):=by
    by_cases h:i<n
    ·rw[A4 h,A4 (show i<n+1 by omega)]
    ·rw[AB h,AB (show¬i<n+1 by omega)]
   split
   ·rw[Nat.testBit_or,Nat.testBit_two_pow,Jb c s q i n,e,AB (show¬n=i from fun h=>hi h.symm),Bool.or_false]
   ·rw[Jb c s q i n,e]
def Qc(e:Nat->Bool):Nat->Nat
 |0=>0
 |q+1=>Qc e q+if e q=true then 1 else 0
theorem XX{e e':Nat->Bool}:∀{Q},(∀q,q<Q->e q=true->e' q=true)->Qc e Q<=Qc e' Q
 |0,_=>AC _
 |Q+1,h=>by
  unfold Qc;have:=XX (Q:=Q) (fun q hq=>h q (by omega));have h2:=h Q (by omega);by_cases hc:e Q=true
  ·rw[AM hc,AM (h2 hc)];omega
  ·rw[AL hc];omega
def use(c:Nat->Nat)(s n:Nat):Nat->Bool:=fun q=>decide (kH c s q n≠0)
def Nz(b:Row)(s:Nat):Prop:=∀i,s.testBit i=(decide (i<b.n)&&decide (b.I i 0≠0))
theorem XY{e e':Nat->Bool}{q0:Nat}:∀{Q},(∀q,q<Q->e q=true->e' q=true)->q0<Q->e q0=false->e' q0=true->Qc e Q+1<=Qc e' Q
 |Q+1,h,hq,h1,h2=>by
  unfold Qc;by_cases hc:q0=Q
  ·subst hc;have:=XX (Q:=q0) (fun q hq=>h q (by omega));rw[h1,h2,AL (by decide),AM rfl];omega
  ·have:=XY (Q:=Q) (fun q hq=>h q (by omega)) (by omega) h1 h2;have h3:=h Q (by omega);by_cases hc:e Q=true
   ·rw[AM hc,AM (h3 hc)];omega
   ·rw[AL hc];omega
theorem OC{e:Nat->Bool}:∀{Q},Qc e Q<=Q
 |0=>AC _
 |Q+1=>by unfold Qc;have:=OC (e:=e) (Q:=Q);split<;>omega
def pc(t n:Nat):Nat:=Qc (fun i=>t.testBit i) n
theorem Vj{t n i:Nat}(ht:t<2^n)(hi:t.testBit i=true):i<n:=by
 by_cases h:i<n
 ·exact h
 ·rw[Nat.testBit_lt_two_pow (Nat.lt_of_lt_of_le ht (Nat.pow_le_pow_right (by decide) (by omega)))]at hi;cases hi
theorem oI{t h n:Nat}(ht:t<2^n)(hs:h&&&t=h)(h0:h≠0):pc (t^^^h) n+1<=pc t n:=by
 obtain⟨i,hi⟩:=Nat.exists_testBit_of_ne_zero h0;have hti:=Ia hs hi;refine XY (q0:=i) (fun q _ hq=>?_) (Vj ht hti) (by rw[Nat.testBit_xor,hi,hti];rfl) hti;rw[Nat.testBit_xor]at hq;cases h1:h.testBit q
 ·rw[h1,Bool.xor_false]at hq;exact hq
 ·exact Ia hs h1
theorem Ahe{b:Row}(hf:Fit b):∀N t,t<=N->t<2^b.n->mN b t<=(pc t b.n:Nat):=by
 intro N
 induction N with
 |zero=>
  intro t hN ht;have:=(Dj hf ht).zero (by omega);omega
 |succ N ih=>
  intro t hN ht;have hg:=Dj hf ht;by_cases h0:t=0
  ·have:=hg.zero h0;omega
  ·by_cases h1:Sg b t=0
   ·obtain⟨i,hi⟩:=Nat.exists_testBit_of_ne_zero h0;have h2:1<=pc t b.n:=by
     have:=oI ht (Nat.and_self t) h0;omega
    rcases hg.att h0 h1 with h|⟨h,a,c,d,e,f,k⟩
    ·omega
    ·have h3:=jQ c a;have h4:=ih (t^^^h) (by omega) (by omega);have h5:=oI ht c a;omega
   ·have:=hg.neg h0 h1;omega
def YZ(m:Row)(rest low h:Nat):Prop:=h≠0∧h&&&rest=h∧h&&&low≠0∧1<=m.I h 0∧m.I (rest^^^h) 0=wi (m.I rest 0-1)
theorem Ug{m:Row}{rest low:Nat}:∀(n g best:Nat),g&&&rest=g->g<n->(best=0∨YZ m rest low best)->
  (bst m rest low n g best=0∨YZ m rest low (bst m rest low n g best))∧(best≠0->bst m rest low n g best≠0)∧∀h,YZ m rest low h->h<=g->bst m rest low n g best≠0
 |n+1,g,best,hg,hn,hb=>by
  unfold bst;by_cases h0:g=0
  ·rw[AM h0];exact⟨hb,id,fun h hc hl=>by have:=hc.1;omega⟩
  ·rw[AL h0];have hle:(g-1)&&&rest<=g-1:=Nat.and_le_left;have hsub:((g-1)&&&rest)&&&rest=(g-1)&&&rest:=by rw[Nat.and_assoc,Nat.and_self]
   have hu:(QY m rest low g best=0∨YZ m rest low (QY m rest low g best))∧(best≠0->QY m rest low g best≠0)∧(YZ m rest low g->QY m rest low g best≠0):=by
    unfold QY;split
    ·rename_i hc;refine⟨hb,id,fun hcg=>?_⟩;obtain⟨_,_,c3,c4,c5⟩:=hcg;rcases hc with h|h|h
     ·exact absurd h c3
     ·omega
     ·exact absurd c5 h
    ·rename_i hc;split
     ·refine⟨.inr ⟨h0,hg,fun h=>hc (.inl h),?_,Classical.not_not.1 fun h=>hc (.inr (.inr h))⟩,fun _=>h0,fun _=>h0⟩;have:¬m.I g 0<1:=fun h=>hc (.inr (.inl h));omega
     ·rename_i hbn;exact⟨hb,id,fun _ h=>hbn (.inl h)⟩
   obtain⟨u1,u2,u3⟩:=hu;obtain⟨i1,i2,i3⟩:=Ug n ((g-1)&&&rest) (QY m rest low g best) hsub (by omega) u1;refine⟨i1,fun h=>i2 (u2 h),fun h hc hl=>?_⟩;by_cases hgh:h=g
   ·subst hgh;exact i2 (u3 hc)
   ·exact i3 h hc (O1 g rest g h (AC _) hg hc.2.1 (by omega))
theorem Ajy{r:Row}{e j:Nat}{x:Int}:(r.setI j 0 x).I e 0=if e=j then x else r.I e 0:=by
 by_cases h:e=j
 ·subst h;rw[Gp,AM rfl]
 ·rw[KR h,AL h]
theorem wV(best:Nat)(group:Int):∀(m j:Nat)(o:Row),(Zr best group m j o).n=o.n∧∀p,(Zr best group m j o).I p 0=if j<=p∧p<j+m∧best.testBit p=true then group else o.I p 0
 |0,j,o=>⟨rfl,fun p=>by rw[AL (by omega)];rfl⟩
 |m+1,j,o=>by
  unfold Zr;obtain⟨i1,i2⟩:=wV best group m (j+1) (if best.testBit j=true then o.setI j 0 group else o);refine⟨i1.trans (by split<;>rfl),fun p=>?_⟩;rw[i2 p];by_cases hp:p=j
  ·subst hp;rw[AL (by omega)];by_cases hb:best.testBit p=true
   ·rw[AM hb,AM ⟨by omega,by omega,hb⟩,Gp]
   ·rw[AL hb,AL (fun h=>hb h.2.2)]
  ·have e1:(if best.testBit j=true then o.setI j 0 group else o).I p 0=o.I p 0:=by
    split
    ·exact KR hp
    ·rfl
   rw[e1];by_cases hc:j+1<=p∧p<j+1+m∧best.testBit p=true
   ·rw[AM hc,AM ⟨by omega,by omega,hc.2.2⟩]
   ·rw[AL hc,AL (fun h=>hc ⟨by omega,by omega,h.2.2⟩)]
theorem wU(b:Row):∀(m j:Nat)(x:Nat×Row),(Ns b m j x).2.n=x.2.n∧(∀i,(Ns b m j x).1.testBit i=(x.1.testBit i||(decide (j<=i∧i<j+m)&&decide (b.I i 0≠0))))∧∀p,(Ns b m j x).2.I p 0=if j<=p∧p<j+m then-1 else x.2.I p 0
 |0,j,x=>⟨rfl,fun i=>by rw[AB (show¬(j<=i∧i<j+0) by omega)];simp[Ns],fun p=>by rw[AL (by omega)];rfl⟩
 |m+1,j,x=>by
  unfold Ns;obtain⟨i1,i2,i3⟩:=wU b m (j+1) (rsU b j x);refine⟨i1.trans rfl,fun i=>?_,fun p=>?_⟩
  ·rw[i2 i];have hu:(rsU b j x).1.testBit i=(x.1.testBit i||(decide (i=j)&&decide (b.I i 0≠0))):=by
    unfold rsU;dsimp only;split
    ·rename_i h;rw[Nat.testBit_or,Nat.testBit_two_pow];by_cases hij:i=j
     ·subst hij;rw[A4 h,A4 rfl];rfl
     ·rw[AB hij,AB (fun h=>hij h.symm)];rfl
    ·rename_i h;by_cases hij:i=j
     ·subst hij;rw[AB h,Bool.and_false,Bool.or_false]
     ·rw[AB hij];simp
   rw[hu,Bool.or_assoc]
   congr 1
   by_cases hij:i=j
   ·subst hij;rw[A4 rfl,AB (show¬(i+1<=i∧i<i+1+m) by omega),A4 (show i<=i∧i<i+(m+1) by omega)];simp
   ·rw[AB hij];by_cases hc:j+1<=i∧i<j+1+m
    ·rw[A4 hc,A4 (show j<=i∧i<j+(m+1) by omega)];simp
    ·rw[AB hc,AB (show¬(j<=i∧i<j+(m+1)) by omega)];simp
  ·rw[i3 p];show _=_;have:(rsU b j x).2.I p 0=if p=j then-1 else x.2.I p 0:=Ajy;rw[this];by_cases hc:j+1<=p∧p<j+1+m
   ·rw[AM hc,AM (by omega)]
   ·rw[AL hc];by_cases hp:p=j
    ·rw[AM hp,AM (by omega)]
    ·rw[AL hp,AL (by omega)]
theorem Ag6{b:Row}(hf:Fit b){t:Nat}(ht:t<2^b.n):wi ((Fg b).I t 0-1)=mN b t-1:=by
 have hp:2^b.n<=2^10:=Nat.pow_le_pow_right (by decide) hf.1;have:=(Dj hf ht).bound;exact Tc (by unfold mN at this;omega) (by unfold mN at this;omega)
theorem WM{s:Nat}(h0:s≠0)(h1:s<2^62){h:Nat}(hb:h.testBit (EZ s)=true):h&&&KL s≠0:=by
 have hl:KL s=2^EZ s:=(Lib.lowest_bit 64 s h0 (by omega)).1;intro he;have:=congrArg (fun x=>x.testBit (EZ s)) he;simp only[hl,Nat.testBit_and,hb,Nat.testBit_two_pow,Nat.zero_testBit,decide_true,Bool.true_and]at this;cases this
theorem tC{b:Row}(hf:Fit b){rest:Nat}(ht:rest<2^b.n)(h0:rest≠0)(hz:Sg b rest=0):∃h,YZ (Fg b) rest (KL rest) h:=by
 have hp:2^b.n<=2^10:=Nat.pow_le_pow_right (by decide) hf.1;have hg:=Dj hf ht;rcases hg.att h0 hz with h|⟨h,a,c,d,e,f,k⟩
 ·refine⟨rest,h0,Nat.and_self _,WM h0 (by omega) (TJ h0 (by omega)).1,?_,?_⟩
  ·show 1<=mN b rest;omega
  ·rw[Nat.xor_self,Ag6 hf ht];have:mN b 0=0:=(Dj hf (t:=0) (by omega)).zero rfl;show mN b 0=_;omega
 ·refine⟨h,a,c,WM h0 (by omega) e,?_,?_⟩
  ·exact((Dj hf (Nat.lt_of_le_of_lt (sub_le c) ht)).pos a f).1
  ·rw[Ag6 hf ht];show mN b (rest^^^h)=_;omega
def lab(o:Row):Nat->Nat:=fun p=>(o.I p 0).toNat
structure Grp(b:Row)(rest g0:Nat)(o o':Row):Prop where
 n:o'.n=o.n
 out:∀p,rest.testBit p=false->o'.I p 0=o.I p 0
 lo:∀p,rest.testBit p=true->(g0:Int)<=o'.I p 0
 hi:∀p,rest.testBit p=true->o'.I p 0<g0+mN b rest
 sum:∀q,Sg b (kH (lab o') rest q b.n)=0
 all:∀q,g0<=q->(q:Int)<g0+mN b rest->use (lab o') rest b.n q=true
theorem Aib{b:Row}(hf:Fit b)(g0:Nat)(o:Row):Grp b 0 g0 o o:=by
 have h00:mN b 0=0:=(Dj hf (Nat.two_pow_pos _)).zero rfl;refine⟨rfl,fun _ _=>rfl,fun p hp=>?_,fun p hp=>?_,fun q=>?_,fun q _ _=>by omega⟩
 ·rw[Nat.zero_testBit]at hp;cases hp
 ·rw[Nat.zero_testBit]at hp;cases hp
 ·rw[show kH (lab o) 0 q b.n=0 from Nat.eq_of_testBit_eq fun i=>by rw[Jb,Nat.zero_testBit];simp];exact QP
theorem lW{b:Row}(hf:Fit b):∀(f rest g0:Nat)(o:Row),rest<2^b.n->Sg b rest=0->mN b rest<=f->∃o',pI (Fg b) b.n f rest g0 o=some o'∧Grp b rest g0 o o':=by
 intro f
 induction f with
 |zero=>
  intro rest g0 o ht hz hm;have h0:rest=0:=by
   by_cases h:rest=0
   ·exact h
   ·have:=((Dj hf ht).pos h hz).1;omega
  subst h0;exact⟨o,(by unfold pI;rw[AM rfl]),Aib hf g0 o⟩
 |succ f ih=>
  intro rest g0 o ht hz hm;unfold pI;by_cases h0:rest=0
  ·subst h0;rw[AM rfl];exact⟨o,rfl,Aib hf g0 o⟩
  ·rw[AL h0];obtain⟨k1,k2,k3⟩:=Ug (m:=Fg b) (rest:=rest) (low:=KL rest) (rest+1) rest 0 (Nat.and_self _) (by omega) (.inl rfl);obtain⟨h,hc⟩:=tC hf ht h0 hz;have hr:=k1.resolve_left (k3 h hc (sub_le hc.2.1));show∃o',pI (Fg b) b.n f (rest^^^bst (Fg b) rest (KL rest) (rest+1) rest 0) (g0+1) (Zr (bst (Fg b) rest (KL rest) (rest+1) rest 0) g0 b.n 0 o)=some o'∧_;generalize bst (Fg b) rest (KL rest) (rest+1) rest 0=r at hr⊢;obtain⟨r0,rs,rl,rm,rx⟩:=hr;have hrl:r<2^b.n:=Nat.lt_of_le_of_lt (sub_le rs) ht;have hrz:Sg b r=0:=Classical.not_not.1 fun hne=>by
    have:=(Dj hf hrl).neg r0 hne;unfold mN at this;omega
   have hx:mN b (rest^^^r)=mN b rest-1:=by rw[Ag6 hf ht]at rx;exact rx
   have hxs:Sg b (rest^^^r)=0:=by
    have:Sg b (rest^^^r)=Sg b rest-Sg b r:=lL rs;omega
   obtain⟨a1,a2⟩:=wV r (g0:Int) b.n 0 o;obtain⟨o',e1,e2⟩:=ih (rest^^^r) (g0+1) (Zr r g0 b.n 0 o) (Nat.lt_of_le_of_lt (LK rs) ht) hxs (by omega);have hin:∀p,r.testBit p=true->o'.I p 0=g0:=fun p hp=>by
    rw[e2.out p (by rw[Nat.testBit_xor,hp,Ia rs hp];rfl),a2,AM ⟨by omega,by have:=Vj hrl hp;omega,hp⟩]
   have hcls:∀q,kH (lab o') rest q b.n=if q=g0 then r else kH (lab o') (rest^^^r) q b.n:=fun q=>by
    apply Nat.eq_of_testBit_eq;intro i;rw[Jb];split
    ·rename_i hq;subst hq;cases hri:r.testBit i
     ·cases hsi:rest.testBit i
      ·simp
      ·have:=e2.lo i (by rw[Nat.testBit_xor,hri,hsi];rfl);rw[AB (show¬lab o' i=q by unfold lab;omega)];simp
     ·rw[A4 (Vj hrl hri),Ia rs hri,A4 (show lab o' i=q by unfold lab;rw[hin i hri];omega)];rfl
    ·rename_i hq;rw[Jb,Nat.testBit_xor];cases hri:r.testBit i
     ·rw[Bool.xor_false]
     ·rw[Ia rs hri,AB (show¬lab o' i=q by unfold lab;rw[hin i hri];omega)];simp
   refine⟨o',e1,e2.n.trans a1,fun p hp=>?_,fun p hp=>?_,fun p hp=>?_,fun q=>?_,fun q h1 h2=>?_⟩
   ·have hrp:r.testBit p=false:=by
     cases h:r.testBit p
     ·rfl
     ·rw[Ia rs h]at hp;cases hp
    rw[e2.out p (by rw[Nat.testBit_xor,hp,hrp];rfl),a2,AL (fun h=>by rw[hrp]at h;cases h.2.2)]
   ·cases hri:r.testBit p
    ·have:=e2.lo p (by rw[Nat.testBit_xor,hri,hp];rfl);omega
    ·rw[hin p hri];exact Int.le_refl _
   ·cases hri:r.testBit p
    ·have:=e2.hi p (by rw[Nat.testBit_xor,hri,hp];rfl);omega
    ·rw[hin p hri];have:=((Dj hf ht).pos h0 hz).1;omega
   ·rw[hcls];split
    ·exact hrz
    ·exact e2.sum q
   ·unfold use;rw[hcls];by_cases hq:q=g0
    ·rw[AM hq];exact A4 r0
    ·rw[AL hq];exact e2.all q (by omega) (by omega)
def tot(f:Nat->Int):Nat->Int
 |0=>0
 |n+1=>tot f n+f n
theorem UM(b:Row):∀(m j:Nat)(s:Int),(UV b m j s).1=false-> -1000000000*(j:Int)<=s->s<=1000000000*(j:Int)->j+m<=10->
  (∀i,j<=i->i<j+m-> -1000000000<=b.I i 0∧b.I i 0<=1000000000)∧(UV b m j s).2=s+(tot (bF b) (j+m)-tot (bF b) j)
 |0,j,s,_,_,_,_=>⟨fun i h1 h2=>by omega,by show s=_;rw[Nat.add_zero];omega⟩
 |m+1,j,s,h,h1,h2,h3=>by
  unfold UV at h⊢;split at h
  ·cases h
  ·rename_i hb;rw[AL hb];have hw:wi (s+b.I j 0)=s+b.I j 0:=Tc (by omega) (by omega);rw[hw]at h⊢;obtain⟨i1,i2⟩:=UM b m (j+1) (s+b.I j 0) h (by omega) (by omega) (by omega);refine⟨fun i a c=>?_,?_⟩
   ·by_cases hij:i=j
    ·subst hij;omega
    ·exact i1 i (by omega) (by omega)
   ·rw[i2,show j+1+m=j+(m+1) by omega];have:tot (bF b) (j+1)=tot (bF b) j+b.I j 0:=rfl;omega
theorem Abs{b:Row}(h:ckE b=0):Fit b∧1<=b.n∧tot (bF b) b.n=0:=by
 unfold ckE at h;split at h
 ·cases h
 ·rename_i hn;split at h
  ·cases h
  ·rename_i hc;have h1:ckB b=false:=by
    cases hb:ckB b
    ·rfl
    ·exact absurd (.inl hb) hc
   have h2:ckS b=0:=Classical.not_not.1 fun hs=>hc (.inr hs);obtain⟨i1,i2⟩:=UM b b.n 0 0 h1 (by omega) (by omega) (by omega);unfold ckS at h2;rw[AE]at i2;refine⟨⟨by omega,fun i hi=>i1 i (by omega) (by omega)⟩,by omega,?_⟩;have:tot (bF b) 0=0:=rfl;omega
theorem jV{f:Nat->Int}{s:Nat}:∀{n},(∀i,i<n->s.testBit i=false->f i=0)->sM f s n=tot f n
 |0,_=>rfl
 |n+1,h=>by
  unfold sM tot;rw[jV (n:=n) fun i hi=>h i (by omega)];cases hs:s.testBit n
  ·rw[h n (by omega) hs];rfl
  ·rfl
structure GOk(b g:Row)(rest:Nat):Prop where
 n:g.n=b.n
 nz:Nz b rest
 out:∀p,p<b.n->b.I p 0=0->g.I p 0= -1
 lo:∀p,rest.testBit p=true->0<=g.I p 0
 hi:∀p,rest.testBit p=true->g.I p 0<mN b rest
 sum:∀q,Sg b (kH (lab g) rest q b.n)=0
 all:∀q:Nat,(q:Int)<mN b rest->use (lab g) rest b.n q=true
 le:mN b rest<=(pc rest b.n:Nat)
theorem groups_ok{b:Row}(h:ckE b=0):gpC b=true∧∃rest,GOk b (gpR b) rest:=by
 obtain⟨hf,hn,ht⟩:=Abs h;obtain⟨r1,r2,r3⟩:=wU b b.n 0 (0,Row.zeros b.n);have hnz:Nz b (Ns b b.n 0 (0,Row.zeros b.n)).1:=fun i=>by
  rw[r2 i,Nat.zero_testBit,Bool.false_or]
  congr 1
  by_cases hi:i<b.n
  ·rw[A4 hi,A4 (by omega)]
  ·rw[AB hi,AB (by omega)]
 have hl:(Ns b b.n 0 (0,Row.zeros b.n)).1<2^b.n:=by
  have:=Vz b b.n 0 (0,Row.zeros b.n) (show 0<2^0 by decide)
  rwa [AE]at this
 have hz:Sg b (Ns b b.n 0 (0,Row.zeros b.n)).1=0:=by
  unfold Sg;rw[jV fun i hi hb=>?_]
  ·exact ht
  ·rw[hnz,A4 hi,Bool.true_and]at hb;exact Classical.not_not.1 (AO hb)
 have hpc:=Ahe hf _ _ (AC _) hl;have hpb:pc (Ns b b.n 0 (0,Row.zeros b.n)).1 b.n<=b.n:=OC;have hn1:=hf.1;obtain⟨o,e1,e2⟩:=lW hf 64 _ 0 (Ns b b.n 0 (0,Row.zeros b.n)).2 hl hz (by omega);have hgo:gpO b=some o:=e1;have hgr:gpR b=w_ o 0 b.n:=by unfold gpR;rw[AL (fun h'=>h' h),hgo]
 have hI:∀p,(w_ o 0 b.n).I p 0=o.I p 0:=fun _=>rfl;have hlab:lab (w_ o 0 b.n)=lab o:=rfl;refine⟨?_,(Ns b b.n 0 (0,Row.zeros b.n)).1,?_⟩
 ·unfold gpC;rw[hgo];simp
 ·rw[hgr];exact{
   n:=rfl
   nz:=hnz
   out:=fun p hp hb=>by
    rw[hI,e2.out p (by rw[hnz,hb];simp),r3,AM (by omega)]
   lo:=fun p hp=>by have:=e2.lo p hp;rw[hI];omega
   hi:=fun p hp=>by have:=e2.hi p hp;rw[hI];omega
   sum:=fun q=>by rw[hlab];exact e2.sum q
   all:=fun q hq=>by rw[hlab];exact e2.all q (by omega) (by omega)
   le:=hpc}
end Go.Proofs.YtnljjjghpgdmoaaGreatDoor.Ld.Mk

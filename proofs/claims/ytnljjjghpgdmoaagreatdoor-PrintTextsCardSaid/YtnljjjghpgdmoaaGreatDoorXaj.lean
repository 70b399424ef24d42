/- A part of the proof of PrintTexts. No conditions. -/
import Derived.Test.YtnljjjghpgdmoaaGreatDoorXai
import Derived.Lib.ItoaLen
import Derived.Lib.ParseIntBTie
set_option linter.all false
namespace Go.Proofs.YtnljjjghpgdmoaaGreatDoor.Rt
open Go.Dec Go.Ev Go.Lib Go.RowKit
set_option maxRecDepth 100000
def CB(l:List UInt8):Ad (txt l)=l:=rfl
def txt_by(s:Y_):txt (Ad s)=s:=by cases s;rfl
def txt_size(l:List UInt8):(txt l).size=l.length:=by
 show(l.toArray).size=_;simp
def txt_app(a b:List UInt8):txt a++txt b=txt (a++b):=ByteArray.mk_append_mk a b
def AZ(s:Y_):s.size=(Ad s).length:=by
 show s.data.size=s.data.toList.length;simp
def getD_by(s:Y_)(i:Nat):s.data.getD i 0=(Ad s).getD i 0:=by
 show _=s.data.toList.getD i 0;rw[Array.getD_eq_getD_getElem?,List.getD_eq_getElem?_getD,Array.getElem?_toList]
def D6(s:Y_):s.toList=Ad s:=ByteArray.toList_eq s
def by_inj{a b:Y_}(h:Ad a=Ad b):a=b:=by rw[<-txt_by a,<-txt_by b,h]
def IM(n:Int):Y_:=PR ((Row.zeros 1).setI 0 0 (IntKind.u8.wrap (IntKind.i64.wrap (48+n.tmod 10)))) 0 1
def SD(n:Int)(s:Y_):St:=⟨[i64 n]++us 2++[.string s]++us 13,[[]],[]⟩
def SDx(s:Y_):St:=⟨us 2++[.string s]++us 14,[[]],[]⟩
def GD:List It->(X->St->OD)->OD
 |[.i n,.s s],k=>br (decide (0<=n∧n<9223372036854775808∧s.size<=900)) (k .ret (SDx (txt (decDigits n.toNat)++s))) none
 |_,_=>none
def lD:LoopC where
 f:=145
 id:=2
 lv:=[0,3]
 lx:=[2]
 p:={τ:=[.v (.int .i64)]++pu 2++[.v .str]++pu 13,saved:=[[]],mem:=[]}
 G:=GD
def SG(s:Y_)(n i:Int):St:=⟨[.string s]++us 3++[i64 n,i64 i]++us 49,[[]],[]⟩
def SGx(n:Int):St:=⟨us 4++[i64 n]++us 50,[[]],[]⟩
def SGr(n:Int):St:=⟨us 2++[i64 0,.bool false,i64 n]++us 50,[[]],[]⟩
def Gw:List UInt8->Int->Int×Bool
 |[],n=>(n,true)
 |c::r,n=>match Yf c n with
  |some m=>Gw r m
  |none=>(n,false)
def Zg:∀(l:List UInt8)(n:Int),Ih l n=if(Gw l n).2=true then some (Gw l n).1 else none
 |[],n=>rfl
 |c::r,n=>by
  unfold Ih Gw;cases Yf c n with
  |none=>rfl
  |some m=>exact Zg r m
def GG:List It->(X->St->OD)->OD
 |[.s s],k=>br (decide (s.size<=1000)) (br (Gw (Ad s) 0).2 (k (.exit 0) (SGx (Gw (Ad s) 0).1)) (k .ret (SGr (Gw (Ad s) 0).1))) none
 |_,_=>none
def lG:LoopC where
 f:=156
 id:=5
 lv:=[0,4,5]
 lx:=[2,3,4]
 p:={τ:=[.v .str]++pu 3++[.v (.c (i64 0)),.v (.c (i64 0))]++pu 49,saved:=[[]],mem:=[]}
 G:=GG
def SP(s:Y_)(b:Bool)(i:Int):St:=⟨[.string s]++us 1++[.pointer (some ⟨0,0,some 0⟩)]++us 1++[.bool b,i64 i]++us 78,[[]],[some (.box [i64 0,i64 0])]⟩
def GP:List It->(X->St->OD)->OD
 |[.s s,.b b],k=>br (decide (s.size<=4611686018427387904)) (k (.exit 0) (SP s b ((sp (Ad s)).1.length:Nat))) none
 |_,_=>none
def lP:LoopC where
 f:=117
 id:=5
 lv:=[0,2,4,5]
 lx:=[0,2,3,4,5]
 p:={τ:=[.v .str]++pu 1++[.v (.c (.pointer (some ⟨0,0,some 0⟩)))]++pu 1++[.v .bool,.v (.c (i64 0))]++pu 78,saved:=[[]],mem:=[.box [.v (.c (i64 0)),.v (.c (i64 0))]]}
 G:=GP
noncomputable def CD:Cx:=AP Tryz.prog fns [] [lD,lG]
def VW(p:Nat)(R:St->OD)(K:X->St->OD)(n:Int)(s:Y_):AA CD 145 true (inl CD (p+4)) (Cm CD.P 145 2) (SD n s) (BF [0,3] (some [2]) R K)=br (((((IM n).size+s.size:Nat)):Int)>IntKind.i64.max) none (br (IntKind.i64.wrap (n.tdiv 10)==0) (K .ret (SDx (IM n++s))) (R (SD (IntKind.i64.wrap (n.tdiv 10)) (IM n++s)))):=k_
def NM(u:Nat)(h:u<9223372036854775808):IM (u:Int)=txt [UInt8.ofNat (48+u%10)]:=by
 have e1:((u:Int)).tmod 10=((u%10:Nat):Int):=by rw[Int.tmod_eq_emod_of_nonneg o_];omega
 have e2:IntKind.u8.wrap (IntKind.i64.wrap (48+((u%10:Nat):Int)))=((48+u%10:Nat):Int):=by
  rw[Dw o_ o_];exact H9 (by simp[Lit.wf,IntKind.min,IntKind.max,IntKind.signed,IntKind.bits];omega)
 unfold IM;rw[e1,e2];show txt [UInt8.ofNat (((48+u%10:Nat):Int)).toNat]=_;rw[A9]
def Ot{f:St->(X->St->OD)->OD}(hr:∀n s R K,f (SD n s) (BF [0,3] (some [2]) R K)=br (decide (((((IM n).size+s.size:Nat)):Int)>IntKind.i64.max)) none (br (IntKind.i64.wrap (n.tdiv 10)==0) (K .ret (SDx (IM n++s))) (R (SD (IntKind.i64.wrap (n.tdiv 10)) (IM n++s)))))(K:X->St->OD):
  ∀(N u:Nat)(s:Y_),nDigits u<=N->u<9223372036854775808->s.size+N<=1000->∀F,N<=F->rounds [0,3] (some [2]) f F (SD u s) K=K .ret (SDx (txt (decDigits u)++s))
 |0,u,s,h,_,_,F,_=>by have:=nDigits_pos u;omega
 |N+1,u,s,h,h1,h2,F,hF=>by
  obtain⟨F,rfl⟩:∃F',F=F'+1:=⟨F-1,o_⟩;have hsz:(txt [UInt8.ofNat (48+u%10)]).size=1:=rfl;have e1:((u:Int)).tdiv 10=((u/10:Nat):Int):=by rw[Int.tdiv_eq_ediv_of_nonneg o_];omega
  rw[DF,hr,NM u h1,hsz,AB (show¬(((1+s.size:Nat):Int)>IntKind.i64.max) by
   have:IntKind.i64.max=9223372036854775807:=d_;omega),Ac,e1,Dw o_ o_]
  by_cases hs:u<10
  ·rw[show(((u/10:Nat):Int)==0)=true by simp;omega,Aa,decDigits_one hs,show 48+u%10=48+u by omega]
  ·rw[show(((u/10:Nat):Int)==0)=false by simp;omega,Ac];rw[nDigits_big hs]at h;rw[Ot hr K N (u/10) (txt [UInt8.ofNat (48+u%10)]++s) o_ o_ (by rw[ByteArray.size_append,hsz];omega) F o_,BV hs,<-txt_app,ByteArray.append_assoc]
def rC:Ah CD lD:=⟨k_,fun q its k rr h=>by
 show rounds [0,3] (some [2]) (AA CD 145 true (inl CD (q+4)) (Cm CD.P 145 2)) 18446744073709551616 (bst lD.p its) k=some rr;change GD its k=some rr at h;unfold GD at h;split at h
 ·rename_i n s;rcases CY h with⟨h1,h2⟩|⟨_,h2⟩
  ·obtain⟨k1,k2,k3⟩:=AD h1;obtain⟨u,rfl⟩:=Int.eq_ofNat_of_zero_le k1;rw[<-h2,A9];exact Ot (fun n s R K=>VW q R K n s) k 19 u s (nDigits_lt 18 u o_) o_ o_ _ o_
  ·cases h2
 ·cases h⟩
def Aii(p:Nat)(R:St->OD)(K:X->St->OD)(n i:Int)(s:Y_):AA CD 156 true (inl CD (p+4)) (Cm CD.P 156 5) (SG s n i) (BF [0,4,5] (some [2,3,4]) R K)=br (i<(s.size:Int)) (br (0<=i&&i<(s.size:Int)) (br (((s.data.getD i.toNat 0).toNat:Int)<48) (K .ret (SGr n)) (br (0<=i&&i<(s.size:Int)) (br (((s.data.getD i.toNat 0).toNat:Int)>57) (K .ret (SGr n)) (br (n>100000000000000000) (K .ret (SGr n)) (br (0<=i&&i<(s.size:Int)) (R (SG s (IntKind.i64.wrap (IntKind.i64.wrap (10*n)+IntKind.i64.wrap (IntKind.u8.wrap (((s.data.getD i.toNat 0).toNat:Int)-48)))) (IntKind.i64.wrap (i+1)))) none))) none)) none) (K (.exit 0) (SGx n)):=k_
def tJ{f:St->(X->St->OD)->OD}{s:Y_}(hs:s.size<=1000)(hr:∀n i R K,f (SG s n i) (BF [0,4,5] (some [2,3,4]) R K)=
  br (decide (i<(s.size:Int))) (br (decide (0<=i)&&decide (i<(s.size:Int))) (br (decide (((s.data.getD i.toNat 0).toNat:Int)<48)) (K .ret (SGr n)) (br (decide (0<=i)&&decide (i<(s.size:Int))) (br (decide (((s.data.getD i.toNat 0).toNat:Int)>57)) (K .ret (SGr n)) (br (decide (n>100000000000000000)) (K .ret (SGr n))
   (br (decide (0<=i)&&decide (i<(s.size:Int))) (R (SG s (IntKind.i64.wrap (IntKind.i64.wrap (10*n)+IntKind.i64.wrap (IntKind.u8.wrap (((s.data.getD i.toNat 0).toNat:Int)-48)))) (IntKind.i64.wrap (i+1)))) none))) none)) none) (K (.exit 0) (SGx n))) (K:X->St->OD):
  ∀(m i:Nat)(n:Int),i+m=s.size->0<=n->n<=1000000000000000009->∀F,m<F->rounds [0,4,5] (some [2,3,4]) f F (SG s n i) K=br (Gw ((Ad s).drop i) n).2 (K (.exit 0) (SGx (Gw ((Ad s).drop i) n).1)) (K .ret (SGr (Gw ((Ad s).drop i) n).1))
 |0,i,n,hi,_,_,F,hF=>by
  obtain⟨F,rfl⟩:∃F',F=F'+1:=⟨F-1,o_⟩;rw[DF,hr,AB (show¬(i:Int)<(s.size:Int) by omega),Ac,List.drop_eq_nil_of_le (by rw[<-AZ];omega)];rfl
 |m+1,i,n,hi,h0,h1,F,hF=>by
  obtain⟨F,rfl⟩:∃F',F=F'+1:=⟨F-1,o_⟩;have hlt:i<(Ad s).length:=by rw[<-AZ];omega
  have hd:(Ad s).drop i=(Ad s)[i]::(Ad s).drop (i+1):=List.drop_eq_getElem_cons hlt;have hg:s.data.getD i 0=(Ad s)[i]:=by rw[getD_by,List.getD_eq_getElem?_getD,AK hlt];rfl
  have hin:(decide (0<=(i:Int))&&decide ((i:Int)<(s.size:Int)))=true:=by simp only[A2,A3];omega
  rw[DF,hr,hin,A4 (show(i:Int)<(s.size:Int) by omega),Aa,Aa,Aa,Aa,A9,hg,hd];generalize(Ad s)[i]=c;have hc:c.toNat<256:=c.toNat_lt;unfold Gw;by_cases c1:c.toNat<48
  ·rw[A4 (show((c.toNat:Int)<48) by omega),Aa,show Yf c n=none from AM (.inl c1)];rfl
  ·rw[AB (show¬((c.toNat:Int)<48) by omega),Ac];by_cases c2:57<c.toNat
   ·rw[A4 (show((c.toNat:Int)>57) by omega),Aa,show Yf c n=none from AM (.inr (.inl c2))];rfl
   ·rw[AB (show¬((c.toNat:Int)>57) by omega),Ac];by_cases c3:100000000000000000<n
    ·rw[A4 (show n>100000000000000000 from c3),Aa,show Yf c n=none from AM (.inr (.inr c3))];rfl
    ·rw[AB (show¬n>100000000000000000 from c3),Ac,show Yf c n=some (10*n+((c.toNat:Int)-48))from AL o_,
      show IntKind.u8.wrap ((c.toNat:Int)-48)=(c.toNat:Int)-48 from H9 (by simp[Lit.wf,IntKind.min,IntKind.max,IntKind.signed,IntKind.bits];omega),
      Dw (n:=(c.toNat:Int)-48) o_ o_,Dw (n:=10*n) o_ o_,Dw (n:=10*n+((c.toNat:Int)-48)) o_ o_,Dw (n:=(i:Int)+1) o_ o_,show(i:Int)+1=((i+1:Nat):Int) by omega]
     exact tJ hs hr K m (i+1) (10*n+((c.toNat:Int)-48)) o_ o_ o_ F o_
def Aos:Ah CD lG:=⟨k_,fun q its k rr h=>by
 show rounds [0,4,5] (some [2,3,4]) (AA CD 156 true (inl CD (q+4)) (Cm CD.P 156 5)) 18446744073709551616 (bst lG.p its) k=some rr;change GG its k=some rr at h;unfold GG at h;split at h
 ·rename_i s;rcases CY h with⟨h1,h2⟩|⟨_,h2⟩
  ·have h1:=AD h1;rw[<-h2];exact tJ h1 (fun n i R K=>Aii q R K n i s) k s.size 0 0 o_ o_ o_ _ o_
  ·cases h2
 ·cases h⟩
def Ae2:Be CD:=Aj enter mixed AX (Aw rC<|Aw Aos AX)
def Arb(n:Int):BH CD 6 145 [.v (i64 n)]=br (decide (0<=n∧n<9223372036854775808∧{data:= #[]:Y_}.size<=900)) (some [.v (.string (txt (decDigits n.toNat)++{data:={toList:=[]:Array UInt8}:Y_}))]) (none):=k_
def Aro(s:Y_):BH CD 6 156 [.v (.string s)]=br ((s.size:Int)==0) (some [.v (i64 0),.v (.bool false)]) (br ((s.size:Int)>19) (some [.v (i64 0),.v (.bool false)]) (br ((s.size:Int)>1) (br ((0:Int)<=0&&0<(s.size:Int)) (br ((↑(s.data.getD 0 0).toNat:Int)==48) (some [.v (i64 0),.v (.bool false)]) (br (s.size<=1000) (br ((Gw (Ad s) 0).2) (some [.v (i64 ((Gw (Ad s) 0).1)),.v (.bool ((Gw (Ad s) 0).fst<=1000000000000000000))]) (some [.v (i64 0),.v (.bool false)])) none)) none) (br (s.size<=1000) (br ((Gw (Ad s) 0).2) (some [.v (i64 ((Gw (Ad s) 0).1)),.v (.bool ((Gw (Ad s) 0).fst<=1000000000000000000))]) (some [.v (i64 0),.v (.bool false)])) none))):=k_
def Fdec:FD
 |[.v (.int .i64 n)]=>some (decide (0<=n)&&decide (n<9223372036854775808),[.v (str (decDigits n.toNat))])
 |_=>none
def den_dec:Den Tryz.prog 145 Fdec:=Af Ae2 fun ds rs h=>by
 unfold Fdec at h;split at h
 ·rename_i n;simp only[A5,A6,A2,A3]at h;obtain⟨⟨h0,h1⟩,rfl⟩:=h;refine(Arb n).trans ?_;rw[A4 (show 0<=n∧n<9223372036854775808∧({data:= #[]:Y_}).size<=900 from⟨h0,h1,d_⟩),Aa];show some [D.v (.string (txt (decDigits n.toNat)++txt []))]=_;rw[txt_app,List.append_nil];rfl
 ·cases h
def Aq6:FD
 |[.v (.string s)]=>some (true,[.v (i64 (JA (Ad s))),.v (.bool (P9 (Ad s)))])
 |_=>none
def zG:Den Tryz.prog 156 Aq6:=Af Ae2 fun ds rs h=>by
 unfold Aq6 at h;split at h
 ·rename_i s;cases h;refine(Aro s).trans ?_;rw[AZ,getD_by];have hv:=Zg (Ad s) 0;generalize Ad s=l at hv⊢;have hh:l.getD 0 0=l.headD 0:=by cases l<;>rfl
  rw[hh];unfold JA P9 dgF;have e1:(((l.length:Nat):Int)==0)=decide (l.length=0):=by rw[Bool.eq_iff_iff];simp
  have e2:decide (((l.length:Nat):Int)>19)=decide (19<l.length):=by rw[Bool.eq_iff_iff];simp only[A3];omega
  have e3:decide (((l.length:Nat):Int)>1)=decide (1<l.length):=by rw[Bool.eq_iff_iff];simp only[A3];omega
  have e4:((((l.headD 0).toNat:Nat):Int)==48)=decide ((l.headD 0).toNat=48):=by rw[Bool.eq_iff_iff];simp only[beq_iff_eq,A3];omega
  rw[e1,e2,e3,e4];by_cases c1:l.length=0
  ·rw[A4 c1,Aa];rfl
  ·rw[AB c1,Ac];by_cases c2:19<l.length
   ·rw[A4 c2,Aa];rfl
   ·rw[AB c2,Ac,A4 (show l.length<=1000 by omega),Aa];have tail:(br (Gw l 0).2 (some [D.v (i64 (Gw l 0).1),.v (.bool (decide ((Gw l 0).1<=1000000000000000000)))]) (some [.v (i64 0),.v (.bool false)]))=
      some [D.v (i64 (match Ih l 0 with|some n=>n|none=>0)),.v (.bool (match Ih l 0 with|some n=>decide (n<=1000000000000000000)|none=>false))]:=by
     rw[hv];cases(Gw l 0).2<;>rfl
    by_cases c3:1<l.length
    ·rw[A4 c3,Aa,show(decide ((0:Int)<=0)&&decide (0<((l.length:Nat):Int)))=true by simp;omega,Aa];by_cases c4:(l.headD 0).toNat=48
     ·rw[A4 c4,Aa];rfl
     ·rw[AB c4,Ac];exact tail
    ·rw[AB c3,Ac];exact tail
 ·cases h
def Fdg(dn:Y_->Int)(db:Y_->Bool):FD
 |[.v (.string s)]=>some (true,[.v (i64 (dn s)),.v (.bool (db s))])
 |_=>none
def Fck(ce:Int->Int->Int):FD
 |[.agg [.v (.int .i64 n),.v (.int .i64 d)]]=>some (iR n&&iR d,[.v (i64 (ce n d))])
 |_=>none
def GPg(at_:Y_->Nat):List It->(X->St->OD)->OD
 |[.s s,.b b],k=>br (decide (s.size<=4611686018427387904)) (k (.exit 0) (SP s b (at_ s))) none
 |_,_=>none
def lPg(at_:Y_->Nat):LoopC:={lP with G:=GPg at_}
noncomputable def CPg(dn:Y_->Int)(db:Y_->Bool)(ce:Int->Int->Int)(at_:Y_->Nat):Cx:=AP Tryz.prog fns [(156,Fdg dn db),(96,Fck ce)] [lPg at_]
noncomputable def CP:Cx:=CPg (fun s=>JA (Ad s)) (fun s=>P9 (Ad s)) chkE (fun s=>(sp (Ad s)).1.length)
def PY:OD:=some [.agg [.v (i64 0),.v (i64 0)],.v (i64 12)]
def kH(ce:Int->Int->Int)(num den:Int):OD:=br (iR num&&iR den) (br (ce num den !=0) PY (some [.agg [.v (i64 num),.v (i64 den)],.v (i64 0)])) none
def pqS(g:Bool)(ce:Int->Int->Int)(num den:Int):OD:=br g (br (num==0) PY (br g (kH ce (IntKind.i64.wrap (0-num)) den) (kH ce num den))) (br g (kH ce (IntKind.i64.wrap (0-num)) den) (kH ce num den))
def pqT(S:Int->Int->OD)(dn:Y_->Int)(db:Y_->Bool)(x:Y_)(A:Nat):OD:=br (decide (x.size<=4611686018427387904)) (br (decide (0<=(A:Int))&&decide ((A:Int)<=(x.size:Int))) (br (decide ((A:Int)<(x.size:Int))) (br (decide (0<=(x.size:Int))&&decide ((x.size:Int)<=(x.size:Int))) (br (decide (0<=IntKind.i64.wrap ((A:Int)+1))&&decide (IntKind.i64.wrap ((A:Int)+1)<=(((x.size:Int).toNat:Nat):Int))) (br (db (x.extract (IntKind.i64.wrap ((A:Int)+1)).toNat (x.size:Int).toNat)) (br (!db (x.extract 0 (A:Int).toNat)) PY (br (!decide (dn (x.extract (IntKind.i64.wrap ((A:Int)+1)).toNat (x.size:Int).toNat)>1)) PY (S (dn (x.extract 0 (A:Int).toNat)) (dn (x.extract (IntKind.i64.wrap ((A:Int)+1)).toNat (x.size:Int).toNat))))) (br (!db (x.extract 0 (A:Int).toNat)) PY PY)) none) none) (br (!db (x.extract 0 (A:Int).toNat)) PY (S (dn (x.extract 0 (A:Int).toNat)) 1))) none) none
def Aor(dn:Y_->Int)(db:Y_->Bool)(ce:Int->Int->Int)(at_:Y_->Nat)(s:Y_):BH (CPg dn db ce at_) 6 117 [.v (.string s)]=br ((s.size:Int)>0) (br ((0:Int)<=0&&(0:Int)<(s.size:Int)) (br (((s.data.getD 0 0).toNat:Int)==45) (br (0<=(s.size:Int)&&(s.size:Int)<=(s.size:Int)) (br ((0:Int)<=1&&(1:Int)<=(((s.size:Int).toNat:Nat):Int)) (pqT (pqS (((s.data.getD 0 0).toNat:Int)==45) ce) dn db (s.extract 1 (s.size:Int).toNat) (at_ (s.extract 1 (s.size:Int).toNat))) none) none) (pqT (pqS (((s.data.getD 0 0).toNat:Int)==45) ce) dn db s (at_ s))) none) (pqT (kH ce) dn db s (at_ s)):=k_
def Aln(p:Nat)(R:St->OD)(K:X->St->OD)(b:Bool)(i:Int)(s:Y_):AA CP 117 true (inl CP (p+4)) (Cm CP.P 117 5) (SP s b i) (BF [0,2,4,5] (some [0,2,3,4,5]) R K)=br (i<(s.size:Int)) (br (0<=i&&i<(s.size:Int)) (br (((s.data.getD i.toNat 0).toNat:Int) !=47) (R (SP s b (IntKind.i64.wrap (i+1)))) (K (.exit 0) (SP s b i))) none) (K (.exit 0) (SP s b i)):=k_
def rW{f:St->(X->St->OD)->OD}{s:Y_}{b:Bool}(hs:s.size<=4611686018427387904)(hr:∀i R K,f (SP s b i) (BF [0,2,4,5] (some [0,2,3,4,5]) R K)=
  br (decide (i<(s.size:Int))) (br (decide (0<=i)&&decide (i<(s.size:Int))) (br (((s.data.getD i.toNat 0).toNat:Int) !=47) (R (SP s b (IntKind.i64.wrap (i+1)))) (K (.exit 0) (SP s b i))) none) (K (.exit 0) (SP s b i))) (K:X->St->OD):
  ∀(m i:Nat),i+m=(sp (Ad s)).1.length->∀F,m<F->rounds [0,2,4,5] (some [0,2,3,4,5]) f F (SP s b i) K=K (.exit 0) (SP s b ((sp (Ad s)).1.length:Nat))
 |0,i,hi,F,hF=>by
  obtain⟨F,rfl⟩:∃F',F=F'+1:=⟨F-1,o_⟩;obtain⟨t1,t2,t3⟩:=Ec (Ad s);rw[DF,hr];obtain rfl:i=(sp (Ad s)).1.length:=o_;cases hq:(sp (Ad s)).2 with
  |none=>
   have:=t2 hq;rw[<-AZ]at this;rw[AB (show¬(((sp (Ad s)).1.length:Nat):Int)<(s.size:Int) by omega),Ac]
  |some y=>
   obtain⟨a,_,c⟩:=t3 y hq;rw[<-AZ]at a;rw[A4 (show(((sp (Ad s)).1.length:Nat):Int)<(s.size:Int) by omega),Aa,A4 (show(0:Int)<=(((sp (Ad s)).1.length:Nat):Int) by omega),Bool.true_and,Aa,A9,getD_by,List.getD_eq_getElem?_getD,c];rfl
 |m+1,i,hi,F,hF=>by
  obtain⟨F,rfl⟩:∃F',F=F'+1:=⟨F-1,o_⟩;obtain⟨c,hc,hne⟩:=Adx (Ad s) i o_;have hlt:i<s.size:=by rw[AZ];exact(A0.1 hc).1
  have h47:(((c.toNat:Nat):Int) !=47)=true:=bne_iff_ne.mpr fun e=>hne (by
   have:c.toNat=47:=o_;rw[<-toNat_ofNat c,this];rfl)
  rw[DF,hr,A4 (show(i:Int)<(s.size:Int) by omega),Aa,A4 (show(0:Int)<=(i:Int) by omega),Bool.true_and,Aa,A9,getD_by,List.getD_eq_getElem?_getD,hc,Option.getD_some,h47,Aa,
   Dw (n:=(i:Int)+1) o_ o_,show(i:Int)+1=((i+1:Nat):Int) by omega]
  exact rW hs hr K m (i+1) o_ F o_
def Apq:Ah CP lP:=⟨k_,fun q its k rr h=>by
 show rounds [0,2,4,5] (some [0,2,3,4,5]) (AA CP 117 true (inl CP (q+4)) (Cm CP.P 117 5)) 18446744073709551616 (bst lP.p its) k=some rr;change GP its k=some rr at h;unfold GP at h;split at h
 ·rename_i s b;rcases CY h with⟨h1,h2⟩|⟨_,h2⟩
  ·have h1:=AD h1;rw[<-h2];have hle:(sp (Ad s)).1.length<=s.size:=by
    rw[AZ];obtain⟨t1,t2,t3⟩:=Ec (Ad s);cases hq:(sp (Ad s)).2 with
    |none=>rw[t2 hq];exact AC _
    |some y=>exact Nat.le_of_lt (t3 y hq).1
   exact rW h1 (fun i R K=>Aln q R K b i s) k (sp (Ad s)).1.length 0 o_ _ o_
  ·cases h2
 ·cases h⟩
def Apt:Be CP:=Aj enter mixed (Aw zG<|Aw den_chkr AX) (Aw Apq AX)
def yY(x:Y_)(n:Nat):Ad (x.extract 0 n)=(Ad x).take n:=by
 unfold Ad;rw[extract_data];simp
def YX(x:Y_)(n:Nat):Ad (x.extract n x.size)=(Ad x).drop n:=by
 unfold Ad;rw[extract_data,List.take_of_length_le];rw[List.length_drop,AZ];exact AC _
def dnB(s:Y_):Int:=JA (Ad s)
def dbB(s:Y_):Bool:=P9 (Ad s)
def wB(S:Int->Int->OD)(x:Y_)(hx:x.size<=4611686018427387904):
  pqT S dnB dbB x (sp (Ad x)).1.length=if P9 (sp (Ad x)).1=true∧(match(sp (Ad x)).2 with|none=>true|some b=>P9 b&&decide (JA b>1))=true then S (JA (sp (Ad x)).1) (match(sp (Ad x)).2 with|none=>1|some b=>JA b)else PY:=by
 obtain⟨t1,t2,t3⟩:=Ec (Ad x);unfold pqT dnB dbB;have hA:(sp (Ad x)).1.length<=x.size:=by
  rw[AZ];cases hq:(sp (Ad x)).2 with
  |none=>rw[t2 hq];exact AC _
  |some y=>exact Nat.le_of_lt (t3 y hq).1
 simp only[A9];rw[A4 hx,Aa,yY,t1,show(decide (0<=(((sp (Ad x)).1.length:Nat):Int))&&decide ((((sp (Ad x)).1.length:Nat):Int)<=(x.size:Int)))=true by simp only[A2,A3];omega,Aa];cases hq:(sp (Ad x)).2 with
 |none=>
  have:=t2 hq;rw[<-AZ]at this;rw[AB (show¬(((sp (Ad x)).1.length:Nat):Int)<(x.size:Int) by omega),Ac];cases hb:P9 (sp (Ad x)).1
  ·rw[AL y_];rfl
  ·rw[AM ⟨rfl,rfl⟩];rfl
 |some y=>
  obtain⟨a,b,_⟩:=t3 y hq;rw[<-AZ]at a;rw[A4 (show(((sp (Ad x)).1.length:Nat):Int)<(x.size:Int) by omega),Aa,Dw o_ o_,show(decide (0<=(x.size:Int))&&decide ((x.size:Int)<=(x.size:Int)))=true by simp,Aa,
   show(decide (0<=(((sp (Ad x)).1.length:Nat):Int)+1)&&decide ((((sp (Ad x)).1.length:Nat):Int)+1<=(x.size:Int)))=true by simp only[A2,A3];omega,Aa,
   show((((sp (Ad x)).1.length:Nat):Int)+1).toNat=(sp (Ad x)).1.length+1 by omega]
  have hR:Ad (x.extract ((sp (Ad x)).1.length+1) x.size)=y:=by rw[YX,b]
  simp only[hR];cases hb:P9 (sp (Ad x)).1<;>cases hb2:P9 y
  ·rw[AL y_];rfl
  ·rw[AL y_];rfl
  ·rw[AL y_];rfl
  ·rw[Aa,show(!true)=false from rfl,Ac];by_cases c:JA y>1
   ·rw[A4 c,show(!true)=false from rfl,Ac,AM ⟨rfl,rfl⟩]
   ·rw[AB c,show(!false)=true from rfl,Aa,AL y_]
def Fps:FD
 |[.v (.string s)]=>some (s.size<=4000000000,[.agg [.v (i64 (rpN (Ad s))),.v (i64 (rpD (Ad s)))],.v (i64 (rpE (Ad s)))])
 |_=>none
def Aep(l:List UInt8):rpE l=12->rpN l=0∧rpD l=0:=fun h=>⟨AL o_,AL o_⟩
def OV(l:List UInt8):P9 l=true->0<=JA l∧JA l<=1000000000000000000:=fun h=>⟨(NV h).1,(NV h).2.1⟩
def Akc{num den:Int}(h1: -1000000000000000000<=num∧num<=1000000000000000000)(h2:0<=den∧den<=1000000000000000000):kH chkE num den=if chkE num den=0 then some [.agg [.v (i64 num),.v (i64 den)],.v (i64 0)]else PY:=by
 unfold kH;rw[show(iR num&&iR den)=true by rw[iR_iff.2 o_,iR_iff.2 o_];rfl,Aa];by_cases h:chkE num den=0
 ·rw[h,AM rfl];rfl
 ·rw[AL h,show(chkE num den !=0)=true by simpa using h,Aa]
def Agx{l:List UInt8}{r:OD}(h:r=if P9 (sp (Jw l)).1=true∧jB l=true then(if PS l=true∧JA (sp (Jw l)).1=0 then PY else kH chkE (XI l) (TI l))else PY):
  r=some [.agg [.v (i64 (rpN l)),.v (i64 (rpD l))],.v (i64 (rpE l))]:=by
 subst h;have he:rpE l=12->PY=some [.agg [.v (i64 (rpN l)),.v (i64 (rpD l))],.v (i64 (rpE l))]:=fun h=>by
  obtain⟨a,b⟩:=Aep l h;rw[a,b,h];rfl
 by_cases c1:P9 (sp (Jw l)).1=true∧jB l=true
 ·rw[AM c1];by_cases c2:PS l=true∧JA (sp (Jw l)).1=0
  ·rw[AM c2];exact he (AL fun⟨_,_,h,_⟩=>h c2)
  ·rw[AL c2];have r1:=OV _ c1.1;have rV: -1000000000000000000<=XI l∧XI l<=1000000000000000000:=by unfold XI;split<;>omega
   have rM:0<=TI l∧TI l<=1000000000000000000:=by
    have h2:=c1.2;unfold jB at h2;unfold TI;split
    ·omega
    ·rename_i b hb;rw[hb]at h2;simp only[A2]at h2;exact OV _ h2.1
   rw[Akc rV rM];by_cases c3:chkE (XI l) (TI l)=0
   ·have hE:rpE l=0:=AM ⟨c1.1,c1.2,c2,c3⟩;rw[AM c3,hE,show rpN l=XI l from AM hE,show rpD l=TI l from AM hE]
   ·rw[AL c3];exact he (AL fun⟨_,_,_,h⟩=>c3 h)
 ·rw[AL c1];exact he (AL fun⟨h1,h2,_⟩=>c1 ⟨h1,h2⟩)
def den_parr:Den Tryz.prog 117 Fps:=Af Apt fun ds rs h=>by
 unfold Fps at h;split at h
 ·rename_i s;simp only[A5,A6,A3]at h;obtain⟨h0,rfl⟩:=h;refine(Aor (fun s=>JA (Ad s)) (fun s=>P9 (Ad s)) chkE (fun s=>(sp (Ad s)).1.length) s).trans (Agx ?_);have hn:∀g num den,0<=num->num<=1000000000000000000->pqS g chkE num den=if g=true∧num=0 then PY else kH chkE (if g=true then-num else num) den:=by
   intro g num den h1 h2;unfold pqS;rw[Dw o_ o_];cases g
   ·rw[Ac,Ac,AL y_];rfl
   ·rw[Aa,Aa];by_cases hz:num=0
    ·rw[hz,AM ⟨rfl,rfl⟩];rfl
    ·rw[show(num==0)=false by simpa using hz,Ac,AL (by simp[hz]),AM rfl,Int.zero_sub]
  have hcase:∀(g:Bool)(x:Y_),x.size<=4000000000->g=PS (Ad s)->Ad x=Jw (Ad s)->pqT (pqS g chkE) dnB dbB x (sp (Ad x)).1.length=
    if P9 (sp (Jw (Ad s))).1=true∧jB (Ad s)=true then(if PS (Ad s)=true∧JA (sp (Jw (Ad s))).1=0 then PY else kH chkE (XI (Ad s)) (TI (Ad s)))else PY:=by
   intro g x hx hg hl;rw[wB _ x o_,hl];change (if P9 (sp (Jw (Ad s))).1=true∧jB (Ad s)=true then pqS g chkE (JA (sp (Jw (Ad s))).1) (TI (Ad s))else PY)=_;by_cases c:P9 (sp (Jw (Ad s))).1=true∧jB (Ad s)=true
   ·have r1:=OV _ c.1;rw[AM c,AM c,hn g _ _ r1.1 r1.2,hg];rfl
   ·rw[AL c,AL c]
  by_cases hs:(s.size:Int)>0
  ·rw[A4 hs,Aa,show(decide ((0:Int)<=0)&&true)=true from rfl,Aa];have hne:Ad s≠[]:=fun h=>by rw[AZ,h]at hs;simp at hs
   have hh:(Ad s).getD 0 0=(Ad s).headD 0:=by cases Ad s<;>rfl
   have hg:(((s.data.getD 0 0).toNat:Int)==45)=PS (Ad s):=by
    unfold PS;rw[getD_by,hh,A4 hne,Bool.true_and,Bool.eq_iff_iff];simp only[beq_iff_eq,A3];omega
   by_cases c:PS (Ad s)=true
   ·rw[hg,c,Aa,show(decide (0<=(s.size:Int))&&decide ((s.size:Int)<=(s.size:Int)))=true by simp,Aa,show(decide ((0:Int)<=1)&&decide ((1:Int)<=(((s.size:Int).toNat:Nat):Int)))=true by simp;omega,Aa,A9];have hl:Ad (s.extract 1 s.size)=Jw (Ad s):=by
     rw[YX];unfold Jw;rw[AM c,List.drop_one]
    have hsz:(s.extract 1 s.size).size<=4000000000:=by
     rw[AZ,hl];unfold Jw;rw[AM c,List.length_tail,<-AZ];omega
    have hk:=hcase true (s.extract 1 s.size) hsz c.symm hl;rw[c]at hk;exact hk
   ·have c':PS (Ad s)=false:=by simpa using c
    rw[hg,c',Ac];have hk:=hcase false s h0 c'.symm (by unfold Jw;rw[AL c]);rw[c']at hk;exact hk
  ·rw[AB hs,Ac];have he:Ad s=[]:=List.length_eq_zero_iff.1 (by rw[<-AZ];omega);show pqT (kH chkE) dnB dbB s (sp (Ad s)).1.length=_;rw[wB _ s o_,he];rfl
 ·cases h
def Fdc(dd:Int->Y_):FD
 |[.v (.int .i64 n)]=>some (decide (0<=n)&&decide (n<9223372036854775808),[.v (.string (dd n))])
 |_=>none
def Ffm(ft:Int->Y_):FD
 |[.v (.int .i64 n),.v (.int .i64 b)]=>some (iR n&&decide (b=10),[.v (.string (ft n))])
 |_=>none
noncomputable def CTg(dd ft:Int->Y_)(ce:Int->Int->Int):Cx:=AP Tryz.prog fns [(145,Fdc dd),(96,Fck ce),(79,Fck ce),(143,Ffm ft)] []
def Ajz(dd ft:Int->Y_)(ce:Int->Int->Int)(n d:Int):BH (CTg dd ft ce) 6 112 [.agg [.v (i64 n),.v (i64 d)]]=br (iR n&&iR d) (br (ce n d !=0) (br (iR n&&iR d) (some [.v (.string ({data:={toList:=[]:Array UInt8}:Y_})),.v (i64 (ce n d))]) none) (br (n<0) (br (0<=IntKind.i64.wrap (0-n)&&IntKind.i64.wrap (0-n)<9223372036854775808) (br ((↑({data:= #[45]:Y_}.size+(dd (IntKind.i64.wrap (0-n))).size):Int)>IntKind.i64.max) none (br (d>1) (br (0<=d&&d<9223372036854775808) (br ((↑({data:= #[47]:Y_}.size+(dd d).size):Int)>IntKind.i64.max) none (br ((↑(({data:= #[45]:Y_}++dd (IntKind.i64.wrap (0-n))).size+({data:= #[47]:Y_}++dd d).size):Int)>IntKind.i64.max) none (some [.v (.string ({data:={toList:=[45]:Array UInt8}:Y_}++dd (IntKind.i64.wrap (0-n))++({data:={toList:=[47]:Array UInt8}:Y_}++dd d))),.v (i64 0)]))) none) (some [.v (.string ({data:={toList:=[45]:Array UInt8}:Y_}++dd (IntKind.i64.wrap (0-n)))),.v (i64 0)]))) none) (br (0<=n&&n<9223372036854775808) (br ((↑({data:= #[]:Y_}.size+(dd n).size):Int)>IntKind.i64.max) none (br (d>1) (br (0<=d&&d<9223372036854775808) (br ((↑({data:= #[47]:Y_}.size+(dd d).size):Int)>IntKind.i64.max) none (br ((↑(({data:= #[]:Y_}++dd n).size+({data:= #[47]:Y_}++dd d).size):Int)>IntKind.i64.max) none (some [.v (.string ({data:={toList:=[]:Array UInt8}:Y_}++dd n++({data:={toList:=[47]:Array UInt8}:Y_}++dd d))),.v (i64 0)]))) none) (some [.v (.string ({data:={toList:=[]:Array UInt8}:Y_}++dd n)),.v (i64 0)]))) none))) (none):=k_
def Apb(dd ft:Int->Y_)(ce:Int->Int->Int)(n d:Int):BH (CTg dd ft ce) 6 110 [.agg [.v (i64 n),.v (i64 d)]]=br (iR n&&iR d) (br (ce n d !=0) (some [.v (.string ({data:={toList:=[]:Array UInt8}:Y_})),.v (i64 (ce n d))]) (br (iR n&&10=10) (br (d>1) (br (iR d&&10=10) (br ((↑({data:= #[47]:Y_}.size+(ft d).size):Int)>IntKind.i64.max) none (br ((↑((ft n).size+({data:= #[47]:Y_}++ft d).size):Int)>IntKind.i64.max) none (some [.v (.string (ft n++({data:={toList:=[47]:Array UInt8}:Y_}++ft d))),.v (i64 0)]))) none) (some [.v (.string (ft n)),.v (i64 0)])) none)) (none):=k_
def iR_same(n:Int):Go.Proofs.YtnljjjghpgdmoaaGreatDoor.iR n=iR n:=by rw[Bool.eq_iff_iff,Go.Proofs.YtnljjjghpgdmoaaGreatDoor.iR_iff,iR_iff];omega
def iC:DenW Tryz.prog Wd 143 (Ffm fun n=>txt (itoa n)):=den_fmt.less fun ds rs h=>by
 unfold Ffm at h;unfold Amt;split at h
 ·rename_i n b;show some (Go.Proofs.YtnljjjghpgdmoaaGreatDoor.iR n&&decide (b=10),_)=_;rw[iR_same];exact h
 ·cases h
def Aex:LH (CTg (fun n=>txt (decDigits n.toNat)) (fun n=>txt (itoa n)) chkE) Wd:=BA enter mixed (Aw (den_dec.at _)<|Aw (den_chkr.at _)<|Aw (den_chk.at _)<|Aw iC AX) AX
def Ftx:FD
 |[.agg [.v (.int .i64 n),.v (.int .i64 d)]]=>some (iR n&&iR d,[.v (str (txL n d)),.v (i64 (chkE n d))])
 |_=>none
def max_i64:IntKind.i64.max=9223372036854775807:=d_
def C9{n:Int}(h:iR n=true):(itoa n).length<=21:=by
 obtain⟨h0,h1⟩:=iR_iff.1 h;exact itoa_length_le n h0 o_
def Ph{n:Int}(h:0<=n):decDigits n.toNat=itoa n:=by
 obtain⟨u,rfl⟩:=Int.eq_ofNat_of_zero_le h;rw[itoa_nonneg,A9]
def TT{n:Int}(h:n<0):[45]++decDigits (0-n).toNat=itoa n:=by
 obtain⟨u,rfl⟩:∃u:Nat,n= -(u:Int):=⟨n.natAbs,o_⟩;rw[itoa_neg u o_,show(0- -(u:Int)).toNat=u by omega];rfl
def den_text:DenW Tryz.prog Wd 110 Ftx:=CO Aex fun ds rs h=>by
 unfold Ftx at h;split at h
 ·rename_i n d;simp only[A5,A6]at h;obtain⟨h0,rfl⟩:=h;refine(Apb (fun n=>txt (decDigits n.toNat)) (fun n=>txt (itoa n)) chkE n d).trans ?_;have hr:=h0;simp only[A2]at hr;rw[h0,Aa];unfold str txL;by_cases hc:chkE n d=0
  ·rw[show(chkE n d !=0)=false by simpa using hc,Ac,hr.1,show(true&&decide (10=10))=true from rfl,Aa,AM hc,hr.2,hc,show(true&&decide (10=10))=true from rfl,Aa];have l1:=C9 hr.1;have l2:=C9 hr.2;by_cases hd:d>1
   ·rw[A4 hd,Aa,AM hd];show br (decide ((((txt [47]).size+(txt (itoa d)).size:Nat):Int)>IntKind.i64.max)) none (br (decide ((((txt (itoa n)).size+(txt [47]++txt (itoa d)).size:Nat):Int)>IntKind.i64.max)) none (some [D.v (.string (txt (itoa n)++(txt [47]++txt (itoa d)))),.v (i64 0)]))=_;rw[txt_app,txt_app,txt_size,txt_size,txt_size,txt_size,max_i64,AB z_,Ac,AB z_,Ac];rfl
   ·rw[AB hd,Ac,AL hd]
  ·rw[show(chkE n d !=0)=true by simpa using hc,Aa,AL hc];rfl
 ·cases h
def UX(n d:Int):chkE n d=0∨chkE n d=8:=by
 unfold chkE;split
 ·exact .inl rfl
 ·exact .inr rfl
def den_textr:DenW Tryz.prog Wd 112 Ftx:=CO Aex fun ds rs h=>by
 unfold Ftx at h;split at h
 ·rename_i n d;simp only[A5,A6]at h;obtain⟨h0,rfl⟩:=h;refine(Ajz (fun n=>txt (decDigits n.toNat)) (fun n=>txt (itoa n)) chkE n d).trans ?_;have hr:=h0;simp only[A2]at hr;rw[h0,Aa];unfold str txL;by_cases hc:chkE n d=0
  ·obtain⟨g1,g2,_⟩:=chk_good hc;rw[show(chkE n d !=0)=false by simpa using hc,Ac,AM hc,hc];have l1:=C9 hr.1;have l2:=C9 hr.2;have hD:txt (decDigits d.toNat)=txt (itoa d):=by rw[Ph o_]
   have hw:IntKind.i64.wrap (0-n)=0-n:=Dw o_ o_;have main:∀x:List UInt8,x=itoa n->br (decide (d>1)) (br (decide (0<=d)&&decide (d<9223372036854775808)) (br (decide ((((txt [47]).size+(txt (itoa d)).size:Nat):Int)>IntKind.i64.max)) none (br (decide ((((txt x).size+(txt [47]++txt (itoa d)).size:Nat):Int)>IntKind.i64.max)) none (some [D.v (.string (txt x++(txt [47]++txt (itoa d)))),.v (i64 0)]))) none) (some [.v (.string (txt x)),.v (i64 0)])=
     some [D.v (.string (txt (if d>1 then itoa n++47::itoa d else itoa n))),.v (i64 0)]:=by
    rintro x rfl;by_cases hd:d>1
    ·rw[A4 hd,Aa,AM hd,show(decide (0<=d)&&decide (d<9223372036854775808))=true by simp only[A2,A3];omega,Aa,txt_app,txt_app,txt_size,txt_size,txt_size,txt_size,max_i64,AB z_,Ac,AB z_,Ac];rfl
    ·rw[AB hd,Ac,AL hd]
   by_cases hn:n<0
   ·have hx:txt [45]++txt (decDigits (0-n).toNat)=txt (itoa n):=by rw[txt_app,TT hn]
    rw[A4 hn,Aa,hw,show(decide (0<=0-n)&&decide (0-n<9223372036854775808))=true by simp only[A2,A3];omega,Aa];have hl:(decDigits (0-n).toNat).length+1<=21:=by
     have:=congrArg List.length (TT hn);simp at this;simp;omega
    show br (decide ((((txt [45]).size+(txt (decDigits (0-n).toNat)).size:Nat):Int)>IntKind.i64.max)) none (br (decide (d>1)) (br (decide (0<=d)&&decide (d<9223372036854775808)) (br (decide ((((txt [47]).size+(txt (decDigits d.toNat)).size:Nat):Int)>IntKind.i64.max)) none (br (decide ((((txt [45]++txt (decDigits (0-n).toNat)).size+(txt [47]++txt (decDigits d.toNat)).size:Nat):Int)>IntKind.i64.max)) none (some [D.v (.string (txt [45]++txt (decDigits (0-n).toNat)++(txt [47]++txt (decDigits d.toNat)))),.v (i64 0)]))) none) (some [.v (.string (txt [45]++txt (decDigits (0-n).toNat))),.v (i64 0)]))=_;rw[txt_size,txt_size,max_i64,AB (by simp at hl⊢;omega),Ac,<-max_i64,hx,hD];exact main _ rfl
   ·have hx:txt []++txt (decDigits n.toNat)=txt (itoa n):=by rw[txt_app,Ph o_];rfl
    rw[AB hn,Ac,show(decide (0<=n)&&decide (n<9223372036854775808))=true by simp only[A2,A3];omega,Aa];have hl:(decDigits n.toNat).length<=21:=by rw[Ph o_];exact l1
    show br (decide ((((txt []).size+(txt (decDigits n.toNat)).size:Nat):Int)>IntKind.i64.max)) none (br (decide (d>1)) (br (decide (0<=d)&&decide (d<9223372036854775808)) (br (decide ((((txt [47]).size+(txt (decDigits d.toNat)).size:Nat):Int)>IntKind.i64.max)) none (br (decide ((((txt []++txt (decDigits n.toNat)).size+(txt [47]++txt (decDigits d.toNat)).size:Nat):Int)>IntKind.i64.max)) none (some [D.v (.string (txt []++txt (decDigits n.toNat)++(txt [47]++txt (decDigits d.toNat)))),.v (i64 0)]))) none) (some [.v (.string (txt []++txt (decDigits n.toNat))),.v (i64 0)]))=_;rw[txt_size,txt_size,max_i64,AB z_,Ac,<-max_i64,hx,hD];exact main _ rfl
  ·have h8:chkE n d=8:=(UX n d).resolve_left hc;rw[show(chkE n d !=0)=true by simpa using hc,Aa,AL hc];rfl
 ·cases h
def Fct(c1 c2:Y_->Y_->Y_)(c3:Y_->Y_->Bool):FD
 |[.v (.string s),.v (.string p)]=>some (s.size<4294967281,[.v (.string (c1 s p)),.v (.string (c2 s p)),.v (.bool (c3 s p))])
 |_=>none
def Fpi(pn:Y_->Int)(pe:Y_->Bool):FD
 |[.v (.string s),.v (.int .i64 b),.v (.int .i64 z)]=>some (decide (b=10)&&decide (z=64)&&decide (s.size<=4294967296),[.v (i64 (pn s)),.err (pe s)])
 |_=>none
def Ftv(tn:Int->Int->Y_)(te:Int->Int->Int):FD
 |[.agg [.v (.int .i64 n),.v (.int .i64 d)]]=>some (iR n&&iR d,[.v (.string (tn n d)),.v (i64 (te n d))])
 |_=>none
noncomputable def CQg(c1 c2:Y_->Y_->Y_)(c3:Y_->Y_->Bool)(pn:Y_->Int)(pe:Y_->Bool)(tn:Int->Int->Y_)(te:Int->Int->Int):Cx:=AP Tryz.prog fns [(110,Ftv tn te),(182,Fpi pn pe),(27,Fct c1 c2 c3)] []
def ptF(tn:Int->Int->Y_)(te:Int->Int->Int)(s:Y_)(num den:Int):OD:=br (iR num&&iR den) (br (te num den !=0) PY (br (!((tn num den).toList==s.toList)) PY (some [.agg [.v (i64 num),.v (i64 den)],.v (i64 0)]))) none
def ptT(pn:Y_->Int)(pe:Y_->Bool)(tn:Int->Int->Y_)(te:Int->Int->Int)(s a b:Y_):OD:=br (decide (10=10)&&decide (64=64)&&decide (a.size<=4294967296)) (br (pe a) PY (br (!(b.toList==(txt []).toList)) (br (decide (10=10)&&decide (64=64)&&decide (b.size<=4294967296)) (br (pe b) PY (ptF tn te s (pn a) (pn b))) none) (ptF tn te s (pn a) 1))) none
def Ahv(c1 c2:Y_->Y_->Y_)(c3:Y_->Y_->Bool)(pn:Y_->Int)(pe:Y_->Bool)(tn:Int->Int->Y_)(te:Int->Int->Int)(s:Y_):BH (CQg c1 c2 c3 pn pe tn te) 6 153 [.v (.string s)]=br (s.size<4294967281) (ptT pn pe tn te s (c1 s (txt [47])) (c2 s (txt [47]))) none:=k_
def Ap4:LH (CQg (fun s p=>txt (cut (Ad s) (Ad p)).1) (fun s p=>txt (cut (Ad s) (Ad p)).2.1) (fun s p=>(cut (Ad s) (Ad p)).2.2) (fun s=>Qq (Ad s)) (fun s=>X0 (Ad s)) (fun n d=>txt (txL n d)) chkE) Wd:=BA enter mixed (Aw den_text<|Aw bZ<|Aw den_cut AX) AX
def Uj{l:List UInt8}(h:X0 l=false):iR (Qq l)=true:=by
 unfold X0 at h;unfold Qq;rcases hp:parseIntB 64 l with v|_|_
 ·have:=parseIntB_bounds hp;have e2:(2:Nat)^(64-1)=9223372036854775808:=d_;rw[e2]at this;exact iR_iff.2 (by show-9223372036854775808<=v∧v<9223372036854775808;omega)
 ·rw[hp]at h;cases h
 ·rw[hp]at h;cases h
def bytes_eq(a b:Y_):(a.toList==b.toList)=decide (Ad a=Ad b):=by
 rw[D6,D6,Bool.eq_iff_iff];simp
def Aod(l:List UInt8):(sp l).1.length<=l.length∧((sp l).2.getD []).length<=l.length:=by
 obtain⟨t1,t2,t3⟩:=Ec l;have h:=congrArg List.length (Gm l);cases hq:(sp l).2 with
 |none=>rw[hq]at h;simp at h;simp;omega
 |some y=>rw[hq]at h;simp at h;simp;omega
def den_parp:DenW Tryz.prog Wd 153 Fps:=CO Ap4 fun ds rs h=>by
 unfold Fps at h;split at h
 ·rename_i s;simp only[A5,A6,A3]at h;obtain⟨h0,rfl⟩:=h;refine(Ahv _ _ _ _ _ _ _ s).trans ?_;have hc:cut (Ad s) (Ad (txt [47]))=((sp (Ad s)).1,(sp (Ad s)).2.getD [],(sp (Ad s)).2.isSome):=IE (Ad s);rw[A4 (show s.size<4294967281 by omega),Aa,hc];obtain⟨l1,l2⟩:=Aod (Ad s);rw[<-AZ]at l1 l2;obtain⟨p1,p2⟩:=Aph (Ad s);show ptT (fun s=>Qq (Ad s)) (fun s=>X0 (Ad s)) (fun n d=>txt (txL n d)) chkE s (txt (sp (Ad s)).1) (txt ((sp (Ad s)).2.getD []))=_;have hbad:aA (Ad s)≠0->PY=some [.agg [.v (i64 (rpN (Ad s))),.v (i64 (rpD (Ad s)))],.v (i64 (rpE (Ad s)))]:=fun h=>by
   have hr:rpE (Ad s)=12:=(kD _).resolve_left (by rw[<-p1];exact h);obtain⟨a,b⟩:=Aep _ hr;rw[a,b,hr];rfl
  unfold ptT;dsimp only;rw[txt_size,txt_size,A4 (show(sp (Ad s)).1.length<=4294967296 by omega),show(decide (10=10)&&decide (64=64)&&true)=true from rfl,Aa,bytes_eq,CB,CB,CB];cases e1:X0 (sp (Ad s)).1
  ·rw[Ac];have fin:∀den,den=Wl (Ad s)->((sp (Ad s)).2.getD []=[]∨X0 ((sp (Ad s)).2.getD [])=false)->iR den=true->ptF (fun n d=>txt (txL n d)) chkE s (Qq (sp (Ad s)).1) den=some [.agg [.v (i64 (rpN (Ad s))),.v (i64 (rpD (Ad s)))],.v (i64 (rpE (Ad s)))]:=by
    intro den hden hor hir;unfold ptF;dsimp only;rw[Uj e1,hir,show(true&&true)=true from rfl,Aa,bytes_eq,CB,hden];by_cases c1:chkE (Qq (sp (Ad s)).1) (Wl (Ad s))=0
    ·rw[show(chkE (Qq (sp (Ad s)).1) (Wl (Ad s)) !=0)=false by simpa using c1,Ac];by_cases c2:txL (Qq (sp (Ad s)).1) (Wl (Ad s))=Ad s
     ·have hp0:aA (Ad s)=0:=AM ⟨e1,hor,c1,c2⟩;rw[A4 c2,show(!true)=false from rfl,Ac,(p2 hp0).1,(p2 hp0).2,<-p1,hp0]
     ·rw[AB c2,show(!false)=true from rfl,Aa];exact hbad (by unfold aA;rw[AL fun⟨_,_,_,h⟩=>c2 h];decide)
    ·rw[show(chkE (Qq (sp (Ad s)).1) (Wl (Ad s)) !=0)=true by simpa using c1,Aa];exact hbad (by unfold aA;rw[AL fun⟨_,_,h,_⟩=>c1 h];decide)
   by_cases hG:(sp (Ad s)).2.getD []=[]
   ·rw[A4 hG,show(!true)=false from rfl,Ac];exact fin 1 (by unfold Wl;rw[AM hG]) (.inl hG) d_
   ·rw[AB hG,show(!false)=true from rfl,Aa,A4 (show((sp (Ad s)).2.getD []).length<=4294967296 by omega),show(decide (10=10)&&decide (64=64)&&true)=true from rfl,Aa];cases e2:X0 ((sp (Ad s)).2.getD [])
    ·rw[Ac];exact fin _ (by unfold Wl;rw[AL hG]) (.inr e2) (Uj e2)
    ·rw[Aa];exact hbad (by unfold aA;rw[AL fun⟨_,h,_⟩=>h.elim hG (fun h=>by rw[e2]at h;cases h)];decide)
  ·rw[Aa];exact hbad (by unfold aA;rw[AL fun⟨h,_⟩=>by rw[e1]at h;cases h];decide)
 ·cases h
end Go.Proofs.YtnljjjghpgdmoaaGreatDoor.Rt
namespace Go.Proofs.YtnljjjghpgdmoaaGreatDoor
open Go.Ev
set_option maxRecDepth 100000
def Nq(r:Row)(i:Nat):Bool:=Rt.iR (r.I i 0)&&Rt.iR (r.I i 1)&&Rt.iR (r.I i 2)&&Rt.iR (r.I i 3)
def NR(a b c d:Int):Bool:=Rt.chk2 a b c d==0&&decide (Rt.cpC a b c d<0)
def ZQ:FD
 |[.agg [.v (.int .i64 a),.v (.int .i64 b),.v (.int .i64 c),.v (.int .i64 d)]]=>some (Rt.iR a&&Rt.iR b&&Rt.iR c&&Rt.iR d,[.v (.bool (NR a b c d))])
 |_=>none
def Alh:FD
 |[.agg [.v (.int .i64 a),.v (.int .i64 b)],.agg [.v (.int .i64 c),.v (.int .i64 d)]]=>some (Rt.iR a&&Rt.iR b&&Rt.iR c&&Rt.iR d,[.v (i64 (Rt.cpC a b c d))])
 |_=>none
def Akt:FD
 |[.agg [.v (.int .i64 a),.v (.int .i64 b)],.agg [.v (.int .i64 c),.v (.int .i64 d)]]=>some (Rt.iR a&&Rt.iR b&&Rt.iR c&&Rt.iR d,[.v (.bool (decide (Rt.cpC a b c d<0)))])
 |_=>none
noncomputable def CCm:Cx:=AP Tryz.prog fns [(122,Rt.Fcmp)] []
def Xz:Be CCm:=Aj enter mixed (Aw Rt.den_cmpp AX) AX
def Ar3(a b c d:Int):BH CCm 6 159 [.agg [.v (i64 a),.v (i64 b),.v (i64 c),.v (i64 d)]]=br (Rt.iR a&&Rt.iR b&&Rt.iR c&&Rt.iR d) (br (Rt.chk2 a b c d==0) (some [.v (.bool (Rt.cpC a b c d<0))]) (some [.v (.bool false)])) (none):=k_
def Aqt(a b c d:Int):BH CCm 6 121 [.agg [.v (i64 a),.v (i64 b)],.agg [.v (i64 c),.v (i64 d)]]=br (Rt.iR a&&Rt.iR b&&Rt.iR c&&Rt.iR d) (some [.v (i64 (Rt.cpC a b c d))]) (none):=k_
def Arf(a b c d:Int):BH CCm 6 77 [.agg [.v (i64 a),.v (i64 b)],.agg [.v (i64 c),.v (i64 d)]]=br (Rt.iR a&&Rt.iR b&&Rt.iR c&&Rt.iR d) (some [.v (.bool (Rt.cpC a b c d<0))]) (none):=k_
def Abh:Den Tryz.prog 159 ZQ:=Af Xz fun ds rs h=>by
 unfold ZQ at h;split at h
 ·rename_i a b c d;simp only[A5,A6]at h;obtain⟨h0,rfl⟩:=h;refine(Ar3 a b c d).trans ?_;rw[h0,Aa];unfold NR;cases Rt.chk2 a b c d==0<;>rfl
 ·cases h
def Acy:Den Tryz.prog 121 Alh:=Af Xz fun ds rs h=>by
 unfold Alh at h;split at h
 ·rename_i a b c d;simp only[A5,A6]at h;obtain⟨h0,rfl⟩:=h;refine(Aqt a b c d).trans ?_;rw[h0,Aa]
 ·cases h
def yF:Den Tryz.prog 77 Akt:=Af Xz fun ds rs h=>by
 unfold Akt at h;split at h
 ·rename_i a b c d;simp only[A5,A6]at h;obtain⟨h0,rfl⟩:=h;refine(Arf a b c d).trans ?_;rw[h0,Aa]
 ·cases h
def wU:Dl:={τ:=pu 8++[.v (.sl 0),.v (.int .i64),.v (.int .i64)]++pu 7,saved:=[[]],mem:=[.row Qw false]}
structure A_lal where
 n:Nat
 len:Int
 j:Int
 r:Row
def dJ(its:List It):Option A_lal:=match its with|[.n n,.i len,.i j,.r r]=>some ⟨n,len,j,r⟩|_=>none
def kF(x:A_lal):Bool:=x.j=0∧x.len=x.n∧x.n<=1000000∧(∀i,i<x.n->Nq x.r i=true)
def c_lal_iff{x:A_lal}:=@Bl _ kF _ _ rfl x
def lal:ScanL A_lal:=⟨120,4,[8,9,10],[2],wU,dJ,fun x j=>[.n x.n,.i (x.n:Int),.i (j:Int),.r x.r],fun x=>x.n,kF,fun x j=> !NR (x.r.I j 0) (x.r.I j 1) (x.r.I j 2) (x.r.I j 3),fun x j K=>K .ret ⟨us 2++[i64 8]++us 15,[[]],[]⟩,fun x K=>K (.exit 0) ⟨us 18,[[]],[]⟩⟩
noncomputable def Cal:Cx:=AP Tryz.prog fns [(159,ZQ)] [lal.C]
def Adl(R:St->OD)(K:X->St->OD)(q n:Nat)(len j:Int)(r:Row):Ak Cal 120 4 q (bst wU [.n n,.i len,.i j,.r r]) (BF [8,9,10] (some [2]) R K)=br (j<len) (br (0<=j&&j<(n:Int)) (br (Rt.iR (r.I (0+j.toNat) 0)&&Rt.iR (r.I (0+j.toNat) 1)&&Rt.iR (r.I (0+j.toNat) 2)&&Rt.iR (r.I (0+j.toNat) 3)) (br (!NR (r.I (0+j.toNat) 0) (r.I (0+j.toNat) 1) (r.I (0+j.toNat) 2) (r.I (0+j.toNat) 3)) (lal.Kb ⟨n,len,j,r⟩ 0 K) (R (bst wU [.n n,.i len,.i (IntKind.i64.wrap (j+1)),.r r]))) none) none) (lal.Ke ⟨n,len,j,r⟩ K):=k_
def ual(r:Row):BH Cal 6 120 [.slice Qw r]=br ((r.n:Int)>60) (some [.v (i64 4)]) (br (kF (⟨r.n,(r.n:Int),0,r⟩:A_lal)) (br (Ag (fun j=> !NR (r.I j 0) (r.I j 1) (r.I j 2) (r.I j 3)) r.n 0) (some [.v (i64 8)]) (some [.v (i64 0)])) none):=k_
def Ajv:Ah Cal lal.C:=lal.ok k_
 (fun its x h hc=>by
  replace h:dJ its=some x:=h;unfold dJ at h;split at h
  ·cases h;have h:=c_lal_iff.1 hc;dsimp only at h;obtain⟨rfl,rfl,_⟩:=h;rfl
  ·cases h)
 (fun x hc=>by have:=c_lal_iff.1 hc;show x.n<2^64;omega)
 (fun q ⟨n,len0,j0,r⟩ j hc hi R K=>by
  obtain⟨h1,h2,h3,h4⟩:=c_lal_iff.1 hc;dsimp only at*
  replace hi:j<n:=hi;refine(Adl R K q n ((n:Int)) ((j:Int)) r).trans ?_;have k1:=h4 j hi;unfold Nq at k1;rw[A9,AE j,gd j n hi,DX j n hi,Eg o_,k1];rfl)
 (fun q ⟨n,len0,j0,r⟩ hc R K=>by
  obtain⟨h1,h2,h3,h4⟩:=c_lal_iff.1 hc;dsimp only at*
  refine(Adl R K q n ((n:Int)) ((n:Int)) r).trans ?_;rw[EU n];rfl)
def Ak2:Be Cal:=Aj enter mixed (Aw Abh AX) (Aw Ajv AX)
def NL(r:Row):Int:=bif (r.n:Int)>60 then 4 else bif Ag (fun j=> !NR (r.I j 0) (r.I j 1) (r.I j 2) (r.I j 3)) r.n 0 then 8 else 0
def Alv:FD
 |[.slice [.int .i64,.int .i64,.int .i64,.int .i64] r]=>some (decide (r.n<=1000000∧∀i,i<r.n->Nq r i=true),[.v (i64 (NL r))])
 |_=>none
def Aay:Den Tryz.prog 120 Alv:=Af Ak2 fun ds rs h=>by
 unfold Alv at h;split at h
 ·rename_i r;simp only[A5,A6,A3]at h;obtain⟨h0,rfl⟩:=h;refine(ual r).trans ?_;unfold NL;rw[c_lal_iff.2 ⟨rfl,rfl,h0⟩,Aa];cases decide ((r.n:Int)>60)
  ·show br (Ag (fun j=> !NR (r.I j 0) (r.I j 1) (r.I j 2) (r.I j 3)) r.n 0) _ _=_;cases Ag (fun j=> !NR (r.I j 0) (r.I j 1) (r.I j 2) (r.I j 3)) r.n 0<;>rfl
  ·rfl
 ·cases h
def eG:Dl:={τ:=[.v (.sl 0)]++pu 3++[.v (.int .i64)]++pu 24,saved:=[[]],mem:=[.row Qw false]}
structure A_lpc where
 n:Nat
 j:Int
 r:Row
def sK(its:List It):Option A_lpc:=match its with|[.n n,.i j,.r r]=>some ⟨n,j,r⟩|_=>none
def dD(x:A_lpc):Bool:=x.j=1∧x.n<=1000000∧(∀i,i<x.n->Nq x.r i=true)
def c_lpc_iff{x:A_lpc}:=@Bl _ dD _ _ rfl x
def lpc:ScanL A_lpc:=⟨76,5,[0,4],[2],eG,sK,fun x j=>[.n x.n,.i ((j+1:Nat):Int),.r x.r],fun x=>x.n-1,dD,fun x j=>decide (Rt.cpC (x.r.I j 2) (x.r.I j 3) (x.r.I (j+1) 0) (x.r.I (j+1) 1)>=0),fun x j K=>K .ret ⟨us 2++[i64 8]++us 26,[[]],[]⟩,fun x K=>K (.exit 0) ⟨us 29,[[]],[]⟩⟩
noncomputable def Cpc:Cx:=AP Tryz.prog fns [(120,Alv),(121,Alh)] [lpc.C]
def Ae7(R:St->OD)(K:X->St->OD)(q n:Nat)(j:Int)(r:Row):Ak Cpc 76 5 q (bst eG [.n n,.i j,.r r]) (BF [0,4] (some [2]) R K)=br (j<(n:Int)) (br (0<=IntKind.i64.wrap (j-1)&&IntKind.i64.wrap (j-1)<(n:Int)) (br (0<=j&&j<(n:Int)) (br (Rt.iR (r.I (0+(IntKind.i64.wrap (j-1)).toNat) 2)&&Rt.iR (r.I (0+(IntKind.i64.wrap (j-1)).toNat) 3)&&Rt.iR (r.I (0+j.toNat) 0)&&Rt.iR (r.I (0+j.toNat) 1)) (br (Rt.cpC (r.I (0+(IntKind.i64.wrap (j-1)).toNat) 2) (r.I (0+(IntKind.i64.wrap (j-1)).toNat) 3) (r.I (0+j.toNat) 0) (r.I (0+j.toNat) 1)>=0) (lpc.Kb ⟨n,j,r⟩ 0 K) (R (bst eG [.n n,.i (IntKind.i64.wrap (j+1)),.r r]))) none) none) none) (lpc.Ke ⟨n,j,r⟩ K):=k_
def upc(r:Row):BH Cpc 6 76 [.slice Qw r]=br (decide ((w_ r 0 r.n).n<=1000000∧∀(i:Nat),i<(w_ r 0 r.n).n->Nq (w_ r 0 r.n) i=true)) (br (NL (w_ r 0 r.n) !=0) (some [.v (i64 (NL (w_ r 0 r.n)))]) (br (dD (⟨r.n,1,r⟩:A_lpc)) (br (Ag (fun j=>decide (Rt.cpC (r.I j 2) (r.I j 3) (r.I (j+1) 0) (r.I (j+1) 1)>=0)) (r.n-1) 0) (some [.v (i64 8)]) (some [.v (i64 0)])) none)) (none):=k_
def Ah8:Ah Cpc lpc.C:=lpc.ok k_
 (fun its x h hc=>by
  replace h:sK its=some x:=h;unfold sK at h;split at h
  ·cases h;have h:=c_lpc_iff.1 hc;dsimp only at h;obtain⟨rfl,_⟩:=h;rfl
  ·cases h)
 (fun x hc=>by have:=c_lpc_iff.1 hc;show x.n-1<18446744073709551616;omega)
 (fun q ⟨n,j0,r⟩ j hc hi R K=>by
  obtain⟨h1,h2,h3⟩:=c_lpc_iff.1 hc;dsimp only at*
  replace hi:j<n-1:=hi;refine(Ae7 R K q n (((j+1:Nat):Int)) r).trans ?_;have k1:=h3 j o_;have k2:=h3 (j+1) o_;unfold Nq at k1 k2;simp only[A2]at k1 k2;have e1:IntKind.i64.wrap (((j+1:Nat):Int)-1)=(j:Int):=(wrap64 o_ o_).trans o_;rw[e1,A9,A9,AE,AE,gd j n o_,gd (j+1) n o_,DX (j+1) n o_,Eg o_,k1.1.2,k1.2,k2.1.1.1,k2.1.1.2];rfl)
 (fun q ⟨n,j0,r⟩ hc R K=>by
  obtain⟨h1,h2,h3⟩:=c_lpc_iff.1 hc;dsimp only at*
  refine(Ae7 R K q n (((n-1+1:Nat):Int)) r).trans ?_;rw[AB (show¬((n-1+1:Nat):Int)<(n:Int) by omega)];rfl)
def Alz:Be Cpc:=Aj enter mixed (Aw Aay<|Aw Acy AX) (Aw Ah8 AX)
def Al8(r:Row)(n:Nat):(w_ r 0 n).I=r.I:=by funext i j;rw[Jf,AE]
def Og(r:Row)(n i:Nat):Nq (w_ r 0 n) i=Nq r i:=by unfold Nq;rw[Al8]
def Aal(r:Row):NL (w_ r 0 r.n)=NL r:=by unfold NL;rw[Al8,wn_]
def Xl(r:Row)(j:Nat):Bool:=Rt.cpC (r.I j 2) (r.I j 3) (r.I (j+1) 0) (r.I (j+1) 1)>=0
def NF(r:Row):Int:=bif NL r !=0 then NL r else bif Ag (Xl r) (r.n-1) 0 then 8 else 0
def ZN:FD
 |[.slice [.int .i64,.int .i64,.int .i64,.int .i64] r]=>some (decide (r.n<=1000000∧∀i,i<r.n->Nq r i=true),[.v (i64 (NF r))])
 |_=>none
def Acl:Den Tryz.prog 76 ZN:=Af Alz fun ds rs h=>by
 unfold ZN at h;split at h
 ·rename_i r;simp only[A5,A6,A3]at h;obtain⟨h0,rfl⟩:=h;refine(upc r).trans ?_;rw[Aal,A4 (show(w_ r 0 r.n).n<=1000000∧∀i,i<(w_ r 0 r.n).n->Nq (w_ r 0 r.n) i=true by rw[wn_];exact⟨h0.1,fun i hi=>by rw[Og];exact h0.2 i hi⟩),Aa,c_lpc_iff.2 ⟨rfl,h0⟩,Aa];unfold NF;cases NL r !=0
  ·show br (Ag (Xl r) (r.n-1) 0) _ _=_;cases Ag (Xl r) (r.n-1) 0<;>rfl
  ·rfl
 ·cases h
def wW:Dl:={τ:=[.v (.sl 0)]++pu 2++[.v (.int .i64),.v (.int .i64)]++pu 20,saved:=[[]],mem:=[.row Ar false]}
structure A_lmn where
 n:Nat
 m:Int
 j:Int
 r:Row
def xG(its:List It):Option A_lmn:=match its with|[.n n,.i m,.i j,.r r]=>some ⟨n,m,j,r⟩|_=>none
def wG(x:A_lmn):Bool:=x.j=1∧x.n<=1000000
def c_lmn_iff{x:A_lmn}:=@Bl _ wG _ _ rfl x
def lmn:FoldL A_lmn (Int):=⟨157,5,[0,3,4],[2,3],wW,xG,fun x j a=>[.n x.n,.i a,.i ((j+1:Nat):Int),.r x.r],fun x=>x.n-1,wG,fun x=>x.m,fun x j a=>if x.r.I (j+1) 0<a then x.r.I (j+1) 0 else a,fun x a K=>K (.exit 0) ⟨us 3++[i64 ((a))]++us 21,[[]],[]⟩⟩
def mY:Dl:={τ:=[.v (.sl 0)]++pu 2++[.v (.int .i64),.v (.int .i64)]++pu 20,saved:=[[]],mem:=[.row Ar false]}
structure A_lmx where
 n:Nat
 m:Int
 j:Int
 r:Row
def wJ(its:List It):Option A_lmx:=match its with|[.n n,.i m,.i j,.r r]=>some ⟨n,m,j,r⟩|_=>none
def bI(x:A_lmx):Bool:=x.j=1∧x.n<=1000000
def c_lmx_iff{x:A_lmx}:=@Bl _ bI _ _ rfl x
def lmx:FoldL A_lmx (Int):=⟨158,5,[0,3,4],[2,3],mY,wJ,fun x j a=>[.n x.n,.i a,.i ((j+1:Nat):Int),.r x.r],fun x=>x.n-1,bI,fun x=>x.m,fun x j a=>if x.r.I (j+1) 0>a then x.r.I (j+1) 0 else a,fun x a K=>K (.exit 0) ⟨us 3++[i64 ((a))]++us 21,[[]],[]⟩⟩
noncomputable def Cmn:Cx:=AP Tryz.prog fns [] [lmn.C,lmx.C]
def Adq(R:St->OD)(K:X->St->OD)(q n:Nat)(m j:Int)(r:Row):Ak Cmn 157 5 q (bst wW [.n n,.i m,.i j,.r r]) (BF [0,3,4] (some [2,3]) R K)=br (j<(n:Int)) (br (0<=j&&j<(n:Int)) (R (bst wW [.n n,.i (if r.I (0+j.toNat) 0<m then r.I (0+j.toNat) 0 else m),.i (IntKind.i64.wrap (j+1)),.r r])) none) (K (.exit 0) ⟨us 3++[i64 m]++us 21,[[]],[]⟩):=k_
def Aeo(R:St->OD)(K:X->St->OD)(q n:Nat)(m j:Int)(r:Row):Ak Cmn 158 5 q (bst mY [.n n,.i m,.i j,.r r]) (BF [0,3,4] (some [2,3]) R K)=br (j<(n:Int)) (br (0<=j&&j<(n:Int)) (R (bst mY [.n n,.i (if r.I (0+j.toNat) 0>m then r.I (0+j.toNat) 0 else m),.i (IntKind.i64.wrap (j+1)),.r r])) none) (K (.exit 0) ⟨us 3++[i64 m]++us 21,[[]],[]⟩):=k_
def umn(r:Row):BH Cmn 6 157 [.slice Hf r]=br ((r.n:Int)<1) none (br ((0:Int)<=0&&0<(r.n:Int)) (br (wG (⟨r.n,r.I 0 0,1,r⟩:A_lmn)) (some [.v (i64 (BK (fun j a=>if r.I (j+1) 0<a then r.I (j+1) 0 else a) (r.n-1) 0 (r.I 0 0)))]) none) none):=k_
def umx(r:Row):BH Cmn 6 158 [.slice Hf r]=br ((r.n:Int)<1) none (br ((0:Int)<=0&&0<(r.n:Int)) (br (bI (⟨r.n,r.I 0 0,1,r⟩:A_lmx)) (some [.v (i64 (BK (fun j a=>if r.I (j+1) 0>a then r.I (j+1) 0 else a) (r.n-1) 0 (r.I 0 0)))]) none) none):=k_
def Alo:Ah Cmn lmn.C:=lmn.ok (fun x j a=>True) k_
 (fun its x h hc=>by
  replace h:xG its=some x:=h;unfold xG at h;split at h
  ·cases h;have h:=c_lmn_iff.1 hc;dsimp only at h;obtain⟨rfl,_⟩:=h;rfl
  ·cases h)
 (fun x hc=>by have:=c_lmn_iff.1 hc;show x.n-1<18446744073709551616;omega)
 (fun x hc=>by
  trivial)
 (fun x j a hc hi hI=>by
  trivial)
 (fun q ⟨n,m0,j0,r⟩ j a hc hi hI R K=>by
  obtain⟨h1,h2⟩:=c_lmn_iff.1 hc;dsimp only at*
  replace hi:j<n-1:=hi;refine(Adq R K q n ((a)) (((j+1:Nat):Int)) r).trans ?_;rw[A9,AE,gd (j+1) n o_,DX (j+1) n o_,Eg o_];rfl)
 (fun q ⟨n,m0,j0,r⟩ a hc hI R K=>by
  obtain⟨h1,h2⟩:=c_lmn_iff.1 hc;dsimp only at*
  refine(Adq R K q n ((a)) (((n-1+1:Nat):Int)) r).trans ?_;rw[AB (show¬((n-1+1:Nat):Int)<(n:Int) by omega)];rfl)
def Ag1:Ah Cmn lmx.C:=lmx.ok (fun x j a=>True) k_
 (fun its x h hc=>by
  replace h:wJ its=some x:=h;unfold wJ at h;split at h
  ·cases h;have h:=c_lmx_iff.1 hc;dsimp only at h;obtain⟨rfl,_⟩:=h;rfl
  ·cases h)
 (fun x hc=>by have:=c_lmx_iff.1 hc;show x.n-1<18446744073709551616;omega)
 (fun x hc=>by
  trivial)
 (fun x j a hc hi hI=>by
  trivial)
 (fun q ⟨n,m0,j0,r⟩ j a hc hi hI R K=>by
  obtain⟨h1,h2⟩:=c_lmx_iff.1 hc;dsimp only at*
  replace hi:j<n-1:=hi;refine(Aeo R K q n ((a)) (((j+1:Nat):Int)) r).trans ?_;rw[A9,AE,gd (j+1) n o_,DX (j+1) n o_,Eg o_];rfl)
 (fun q ⟨n,m0,j0,r⟩ a hc hI R K=>by
  obtain⟨h1,h2⟩:=c_lmx_iff.1 hc;dsimp only at*
  refine(Aeo R K q n ((a)) (((n-1+1:Nat):Int)) r).trans ?_;rw[AB (show¬((n-1+1:Nat):Int)<(n:Int) by omega)];rfl)
def fV:Be Cmn:=Aj enter mixed AX (Aw Alo<|Aw Ag1 AX)
def UK(r:Row):Int:=BK (fun j a=>if r.I (j+1) 0<a then r.I (j+1) 0 else a) (r.n-1) 0 (r.I 0 0)
def Ns(r:Row):Int:=BK (fun j a=>if r.I (j+1) 0>a then r.I (j+1) 0 else a) (r.n-1) 0 (r.I 0 0)
def Fmn:FD
 |[.slice [.int .i64] r]=>some (1<=r.n∧r.n<=1000000,[.v (i64 (UK r))])
 |_=>none
def Fmx:FD
 |[.slice [.int .i64] r]=>some (1<=r.n∧r.n<=1000000,[.v (i64 (Ns r))])
 |_=>none
def Aiy:Den Tryz.prog 157 Fmn:=Af fV fun ds rs h=>by
 unfold Fmn at h;split at h
 ·rename_i r;simp only[A5,A6,A3]at h;obtain⟨⟨h0,h1⟩,rfl⟩:=h;refine(umn r).trans ?_;rw[AB (show¬(r.n:Int)<1 by omega),show(decide ((0:Int)<=0)&&decide (0<(r.n:Int)))=true by simp;omega,c_lmn_iff.2 ⟨rfl,h1⟩,Ac,Aa,Aa];rfl
 ·cases h
def Ama:Den Tryz.prog 158 Fmx:=Af fV fun ds rs h=>by
 unfold Fmx at h;split at h
 ·rename_i r;simp only[A5,A6,A3]at h;obtain⟨⟨h0,h1⟩,rfl⟩:=h;refine(umx r).trans ?_;rw[AB (show¬(r.n:Int)<1 by omega),show(decide ((0:Int)<=0)&&decide (0<(r.n:Int)))=true by simp;omega,c_lmx_iff.2 ⟨rfl,h1⟩,Ac,Aa,Aa];rfl
 ·cases h
def mZ:Dl:={τ:=pu 1++[.v (.c (.pointer (some ⟨0,0,some 0⟩)))]++pu 47++[.v (.int .i64),.v (.int .i64)]++pu 31,saved:=[[]],mem:=[.box [.v (.int .i64),.v (.sl 1),.v (.sl 2)],.row Ar false,.row Ar false]}
structure A_lck where
 m:Int
 j:Int
 l:Int
 pn:Nat
 qn:Nat
 p:Row
 q0:Row
def jG(its:List It):Option A_lck:=match its with|[.i m,.i j,.i l,.n pn,.n qn,.r p,.r q0]=>some ⟨m,j,l,pn,qn,p,q0⟩|_=>none
def oL(x:A_lck):Bool:=x.j=0∧x.m=(x.pn:Int)-1∧1<=x.pn∧x.pn<=1000000
def c_lck_iff{x:A_lck}:=@Bl _ oL _ _ rfl x
def lck:ScanL A_lck:=⟨119,7,[1,49,50],[1,2],mZ,jG,fun x j=>[.i x.m,.i (j:Int),.i x.l,.n x.pn,.n x.qn,.r x.p,.r x.q0],fun x=>x.pn-1,oL,fun x j=>decide (x.p.I j 0>=x.p.I (j+1) 0),fun x j K=>K .ret ⟨us 1++[.pointer (some ⟨0,0,some 0⟩),i64 8]++us 79,[[]],[some (.box [i64 x.l,S_ 1 0 x.pn,S_ 2 0 x.qn]),Au Ar x.p,Au Ar x.q0]⟩,fun x K=>K (.exit 0) ⟨us 1++[.pointer (some ⟨0,0,some 0⟩)]++us 80,[[]],[some (.box [i64 x.l,S_ 1 0 x.pn,S_ 2 0 x.qn]),Au Ar x.p,Au Ar x.q0]⟩⟩
noncomputable def Cck:Cx:=AP Tryz.prog fns [(157,Fmn),(158,Fmx)] [lck.C]
def Ad5(R:St->OD)(K:X->St->OD)(q:Nat)(m j l:Int)(pn qn:Nat)(p q0:Row):Ak Cck 119 7 q (bst mZ [.i m,.i j,.i l,.n pn,.n qn,.r p,.r q0]) (BF [1,49,50] (some [1,2]) R K)=br (j<m) (br (0<=j&&j<(pn:Int)) (br (0<=IntKind.i64.wrap (j+1)&&IntKind.i64.wrap (j+1)<(pn:Int)) (br (p.I (0+j.toNat) 0>=p.I (0+(IntKind.i64.wrap (j+1)).toNat) 0) (lck.Kb ⟨m,j,l,pn,qn,p,q0⟩ 0 K) (R (bst mZ [.i m,.i (IntKind.i64.wrap (j+1)),.i l,.n pn,.n qn,.r p,.r q0]))) none) none) (lck.Ke ⟨m,j,l,pn,qn,p,q0⟩ K):=k_
def uck(l:Int)(p q:Row):BH Cck 6 119 [.agg [.v (i64 l),.slice Hf p,.slice Hf q]]=br (l>1000) (some [.v (i64 4)]) (br ((p.n:Int)>40) (some [.v (i64 4)]) (br (l<1) (some [.v (i64 8)]) (br ((p.n:Int)<2) (some [.v (i64 8)]) (br ((q.n:Int) !=IntKind.i64.wrap ((p.n:Int)-1)) (some [.v (i64 8)]) (br ((0:Int)<=0&&0<(p.n:Int)) (br (p.I 0 0 !=0) (some [.v (i64 8)]) (br (0<=IntKind.i64.wrap ((p.n:Int)-1)&&IntKind.i64.wrap ((p.n:Int)-1)<(p.n:Int)) (br (p.I (0+(IntKind.i64.wrap ((p.n:Int)-1)).toNat) 0 !=l) (some [.v (i64 8)]) (br (oL (⟨IntKind.i64.wrap ((p.n:Int)-1),0,l,p.n,q.n,p,q⟩:A_lck)) (br (Ag (fun j=>decide (p.I j 0>=p.I (j+1) 0)) (p.n-1) 0) (some [.v (i64 8)]) (br (decide (1<=(w_ q 0 q.n).n∧(w_ q 0 q.n).n<=1000000)) (br (UK (w_ q 0 q.n)<0) (some [.v (i64 8)]) (br (decide (1<=(w_ q 0 q.n).n∧(w_ q 0 q.n).n<=1000000)) (br (Ns (w_ q 0 q.n)>12) (some [.v (i64 8)]) (br (decide (1<=(w_ q 0 q.n).n∧(w_ q 0 q.n).n<=1000000)) (br (Ns (w_ q 0 q.n)==0) (some [.v (i64 8)]) (some [.v (i64 0)])) none)) none)) none)) none)) none)) none))))):=k_
def Al1:Ah Cck lck.C:=lck.ok k_
 (fun its x h hc=>by
  replace h:jG its=some x:=h;unfold jG at h;split at h
  ·cases h;have h:=c_lck_iff.1 hc;dsimp only at h;obtain⟨rfl,rfl,_⟩:=h;rfl
  ·cases h)
 (fun x hc=>by have:=c_lck_iff.1 hc;show x.pn-1<18446744073709551616;omega)
 (fun q ⟨m,j0,l,pn,qn,p,q0⟩ j hc hi R K=>by
  obtain⟨h1,h2,h3,h4⟩:=c_lck_iff.1 hc;dsimp only at*
  replace hi:j<pn-1:=hi;refine(Ad5 R K q m ((j:Int)) l pn qn p q0).trans ?_;rw[h2,show(IntKind.i64.wrap ((j:Int)+1))=((j+1:Nat):Int)from(wrap64 o_ o_).trans o_,A9,A9,AE,AE,gd j pn o_,gd (j+1) pn o_,A4 (show(j:Int)<(pn:Int)-1 by omega)];rfl)
 (fun q ⟨m,j0,l,pn,qn,p,q0⟩ hc R K=>by
  obtain⟨h1,h2,h3,h4⟩:=c_lck_iff.1 hc;dsimp only at*
  refine(Ad5 R K q m (((pn-1:Nat):Int)) l pn qn p q0).trans ?_;rw[h2,AB (show¬((pn-1:Nat):Int)<(pn:Int)-1 by omega)];rfl)
def Aj5:Be Cck:=Aj enter mixed (Aw Aiy<|Aw Ama AX) (Aw Al1 AX)
def Cb{c:Bool}{a t:Int}{T:OD}(h:c=false->T=some [.v (i64 t)]):br c (some [.v (i64 a)]) T=some [.v (i64 (bif c then a else t))]:=by
 cases c
 ·exact h rfl
 ·rfl
def Fp{c:Bool}{T r:OD}(hc:c=true)(h:T=r):br c T none=r:=by rw[hc];exact h
def Aah(p:Row):Bool:=Ag (fun j=>decide (p.I j 0>=p.I (j+1) 0)) (p.n-1) 0
def Ky(l:Int)(p q:Row):Int:=bif l>1000 then 4 else bif (p.n:Int)>40 then 4 else bif l<1 then 8 else bif (p.n:Int)<2 then 8 else bif (q.n:Int) !=(p.n:Int)-1 then 8 else bif p.I 0 0 !=0 then 8 else bif p.I (p.n-1) 0 !=l then 8 else bif Aah p then 8 else bif UK q<0 then 8 else bif Ns q>12 then 8 else bif Ns q==0 then 8 else 0
def aS:FD
 |[.agg [.v (.int .i64 l),.slice [.int .i64] p,.slice [.int .i64] q]]=>some (p.n<=1000000∧q.n<=1000000,[.v (i64 (Ky l p q))])
 |_=>none
def Ab9:Den Tryz.prog 119 aS:=Af Aj5 fun ds rs h=>by
 unfold aS at h;split at h
 ·rename_i l p q;simp only[A5,A6,A3]at h;obtain⟨⟨hp,hq⟩,rfl⟩:=h;refine(uck l p q).trans ?_;rw[show IntKind.i64.wrap ((p.n:Int)-1)=(p.n:Int)-1 from wrap64 o_ o_];refine Cb fun h1=>Cb fun h2=>Cb fun h3=>Cb fun h4=>Cb fun h5=>?_;have k4:¬(p.n:Int)<2:=AO h4;have k5:(q.n:Int)=(p.n:Int)-1:=by simpa using h5
  have e1:((p.n:Int)-1).toNat=p.n-1:=o_;refine Fp z_ (Cb fun h6=>Fp z_ ?_);rw[e1,AE];refine Cb fun h7=>Fp (c_lck_iff.2 ⟨rfl,rfl,by show 1<=p.n;omega,hp⟩) (Cb fun h8=>?_);have w:decide (1<=(w_ q 0 q.n).n∧(w_ q 0 q.n).n<=1000000)=true:=A4 (by rw[wn_];omega);exact Fp w (Cb fun h9=>Fp w (Cb fun h10=>Fp w (Cb fun h11=>rfl)))
 ·cases h
def CkP(r:Row)(n:Nat):Prop:=∀i,i<n->(r.R i 1).n<=1000000∧(r.R i 2).n<=1000000
instance(r:Row)(n:Nat):Decidable (CkP r n):=by unfold CkP;infer_instance
def Ju(r:Row)(j:Nat):Int:=Ky (r.I j 0) (w_ (r.R j 1) 0 (r.R j 1).n) (w_ (r.R j 2) 0 (r.R j 2).n)
def gI:Dl:={τ:=pu 1++[.v (.c (.pointer (some ⟨0,0,some 0⟩)))]++pu 21++[.v (.sl 1),.v (.int .i64),.v (.int .i64)]++pu 25,saved:=[[]],mem:=[.box [.v (.sl 1),.v (.sl 2)],.row DV false,.row [.int .i64,.int .u8,.int .i64,.int .i64,.int .i64,.int .i64,.int .i64,.int .i64] false]}
structure A_lk6 where
 rn:Nat
 len:Int
 j:Int
 rn_2:Nat
 sn:Nat
 r:Row
 s:Row
def iV(its:List It):Option A_lk6:=match its with|[.n rn,.i len,.i j,.n rn_2,.n sn,.r r,.r s]=>some ⟨rn,len,j,rn_2,sn,r,s⟩|_=>none
def jV(x:A_lk6):Bool:=x.j=0∧x.len=x.rn∧x.rn_2=x.rn∧x.rn<=1000000∧CkP x.r x.rn
def c_lk6_iff{x:A_lk6}:=@Bl _ jV _ _ rfl x
def lk6:ScanL A_lk6:=⟨75,6,[1,23,24,25],[1,2],gI,iV,fun x j=>[.n x.rn,.i (x.rn:Int),.i (j:Int),.n x.rn,.n x.sn,.r x.r,.r x.s],fun x=>x.rn,jV,fun x j=>Ju x.r j !=0,fun x j K=>K .ret ⟨us 1++[.pointer (some ⟨0,0,some 0⟩),i64 (Ju x.r j)]++us 48,[[]],[some (.box [S_ 1 0 x.rn,S_ 2 0 x.sn]),Au DV x.r,some (.row [.int .i64,.int .u8,.int .i64,.int .i64,.int .i64,.int .i64,.int .i64,.int .i64] false x.s)]⟩,fun x K=>K (.exit 0) ⟨us 1++[.pointer (some ⟨0,0,some 0⟩)]++us 49,[[]],[some (.box [S_ 1 0 x.rn,S_ 2 0 x.sn]),Au DV x.r,some (.row [.int .i64,.int .u8,.int .i64,.int .i64,.int .i64,.int .i64,.int .i64,.int .i64] false x.s)]⟩⟩
def WS:Dl:={τ:=pu 1++[.v (.c (.pointer (some ⟨0,0,some 0⟩)))]++pu 34++[.v (.sl 1),.v (.int .i64),.v (.int .i64)]++pu 12,saved:=[[]],mem:=[.box [.v (.sl 1),.v (.sl 2)],.row DV false,.row [.int .i64,.int .u8,.int .i64,.int .i64,.int .i64,.int .i64,.int .i64,.int .i64] false]}
structure A_lk13 where
 rn:Nat
 len:Int
 j:Int
 rn_2:Nat
 sn:Nat
 r:Row
 s:Row
def WE(its:List It):Option A_lk13:=match its with|[.n rn,.i len,.i j,.n rn_2,.n sn,.r r,.r s]=>some ⟨rn,len,j,rn_2,sn,r,s⟩|_=>none
def VT(x:A_lk13):Bool:=x.j=0∧x.len=x.rn∧x.rn_2=x.rn∧x.rn<=1000000
def c_lk13_iff{x:A_lk13}:=@Bl _ VT _ _ rfl x
def lk13:ScanL A_lk13:=⟨75,13,[1,36,37,38],[2],WS,WE,fun x j=>[.n x.rn,.i (x.rn:Int),.i (j:Int),.n x.rn,.n x.sn,.r x.r,.r x.s],fun x=>x.rn,VT,fun x j=>x.r.I j 0 !=x.r.I 0 0,fun x j K=>K .ret ⟨us 2++[i64 8]++us 48,[[]],[]⟩,fun x K=>K (.exit 2) ⟨us 51,[[]],[]⟩⟩
noncomputable def Cak:Cx:=AP Tryz.prog fns [(119,aS)] [lk6.C,lk13.C]
def Ae3(R:St->OD)(K:X->St->OD)(q rn:Nat)(len j:Int)(rn_2 sn:Nat)(r s:Row):Ak Cak 75 6 q (bst gI [.n rn,.i len,.i j,.n rn_2,.n sn,.r r,.r s]) (BF [1,23,24,25] (some [1,2]) R K)=br (j<len) (br (0<=j&&j<(rn:Int)) (br (decide ((w_ (r.R (0+j.toNat) 1) 0 (r.R (0+j.toNat) 1).n).n<=1000000∧(w_ (r.R (0+j.toNat) 2) 0 (r.R (0+j.toNat) 2).n).n<=1000000)) (br (Ky (r.I (0+j.toNat) 0) (w_ (r.R (0+j.toNat) 1) 0 (r.R (0+j.toNat) 1).n) (w_ (r.R (0+j.toNat) 2) 0 (r.R (0+j.toNat) 2).n) !=0) (K .ret ⟨us 1++[.pointer (some ⟨0,0,some 0⟩),i64 (Ky (r.I (0+j.toNat) 0) (w_ (r.R (0+j.toNat) 1) 0 (r.R (0+j.toNat) 1).n) (w_ (r.R (0+j.toNat) 2) 0 (r.R (0+j.toNat) 2).n))]++us 48,[[]],[some (.box [S_ 1 0 rn_2,S_ 2 0 sn]),Au DV r,some (.row [.int .i64,.int .u8,.int .i64,.int .i64,.int .i64,.int .i64,.int .i64,.int .i64] false s)]⟩) (R (bst gI [.n rn,.i len,.i (IntKind.i64.wrap (j+1)),.n rn_2,.n sn,.r r,.r s]))) none) none) (lk6.Ke ⟨rn_2,len,j,rn_2,sn,r,s⟩ K):=k_
def jP(R:St->OD)(K:X->St->OD)(q rn:Nat)(len j:Int)(rn_2 sn:Nat)(r s:Row):Ak Cak 75 13 q (bst WS [.n rn,.i len,.i j,.n rn_2,.n sn,.r r,.r s]) (BF [1,36,37,38] (some [2]) R K)=br (j<len) (br (0<=j&&j<(rn:Int)) (br ((0:Int)<=0&&0<(rn_2:Int)) (br (r.I (0+j.toNat) 0 !=r.I 0 0) (lk13.Kb ⟨rn,len,j,rn_2,sn,r,s⟩ 0 K) (R (bst WS [.n rn,.i len,.i (IntKind.i64.wrap (j+1)),.n rn_2,.n sn,.r r,.r s]))) none) none) (K (.exit 2) ⟨us 51,[[]],[]⟩):=k_
def uak(r s:Row):BH Cak 6 75 [.agg [.slice DV r,.slice [.int .i64,.int .u8,.int .i64,.int .i64,.int .i64,.int .i64,.int .i64,.int .i64] s]]=br ((r.n:Int)>6) (some [.v (i64 4)]) (br ((s.n:Int)>2000) (some [.v (i64 4)]) (br ((r.n:Int)==0) (some [.v (i64 8)]) (br (jV (⟨r.n,(r.n:Int),0,r.n,s.n,r,s⟩:A_lk6)) (br (Ag (fun j=>Ju r j !=0) r.n 0) (some [.v (i64 (Ju r (FZ (fun j=>Ju r j !=0) r.n 0)))]) (br (VT (⟨r.n,(r.n:Int),0,r.n,s.n,r,s⟩:A_lk13)) (br (Ag (fun j=>r.I j 0 !=r.I 0 0) r.n 0) (some [.v (i64 8)]) (some [.v (i64 0)])) none)) none))):=k_
def Agg:Ah Cak lk6.C:=lk6.ok k_
 (fun its x h hc=>by
  replace h:iV its=some x:=h;unfold iV at h;split at h
  ·cases h;have h:=c_lk6_iff.1 hc;dsimp only at h;obtain⟨rfl,rfl,rfl,_⟩:=h;rfl
  ·cases h)
 (fun x hc=>by have:=c_lk6_iff.1 hc;show x.rn<2^64;omega)
 (fun q ⟨rn,len0,j0,rn_2,sn,r,s⟩ j hc hi R K=>by
  obtain⟨h1,h2,h3,h4,h5⟩:=c_lk6_iff.1 hc;dsimp only at*
  replace hi:j<rn:=hi;refine(Ae3 R K q rn ((rn:Int)) ((j:Int)) rn sn r s).trans ?_;have k1:=h5 j hi;rw[A9,AE j,gd j rn hi,DX j rn hi,Eg o_,A4 (show(w_ (r.R j 1) 0 (r.R j 1).n).n<=1000000∧(w_ (r.R j 2) 0 (r.R j 2).n).n<=1000000 by rw[wn_,wn_];exact k1)];rfl)
 (fun q ⟨rn,len0,j0,rn_2,sn,r,s⟩ hc R K=>by
  obtain⟨h1,h2,h3,h4,h5⟩:=c_lk6_iff.1 hc;dsimp only at*
  refine(Ae3 R K q rn ((rn:Int)) ((rn:Int)) rn sn r s).trans ?_;rw[EU rn];rfl)
def zO:Ah Cak lk13.C:=lk13.ok k_
 (fun its x h hc=>by
  replace h:WE its=some x:=h;unfold WE at h;split at h
  ·cases h;have h:=c_lk13_iff.1 hc;dsimp only at h;obtain⟨rfl,rfl,rfl,_⟩:=h;rfl
  ·cases h)
 (fun x hc=>by have:=c_lk13_iff.1 hc;show x.rn<2^64;omega)
 (fun q ⟨rn,len0,j0,rn_2,sn,r,s⟩ j hc hi R K=>by
  obtain⟨h1,h2,h3,h4⟩:=c_lk13_iff.1 hc;dsimp only at*
  replace hi:j<rn:=hi;refine(jP R K q rn ((rn:Int)) ((j:Int)) rn sn r s).trans ?_;rw[A9,AE j,gd j rn hi,DX j rn hi,Eg o_,show(decide ((0:Int)<=0)&&decide ((0:Int)<(rn:Int)))=true by simp;omega];rfl)
 (fun q ⟨rn,len0,j0,rn_2,sn,r,s⟩ hc R K=>by
  obtain⟨h1,h2,h3,h4⟩:=c_lk13_iff.1 hc;dsimp only at*
  refine(jP R K q rn ((rn:Int)) ((rn:Int)) rn sn r s).trans ?_;rw[EU rn];rfl)
def Ajj:Be Cak:=Aj enter mixed (Aw Ab9 AX) (Aw Agg<|Aw zO AX)
def J3(r:Row):Int:=bif (r.n:Int)>6 then 4 else bif (r.n:Int)==0 then 8 else bif Ag (fun j=>Ju r j !=0) r.n 0 then Ju r (FZ (fun j=>Ju r j !=0) r.n 0)else bif Ag (fun j=>r.I j 0 !=r.I 0 0) r.n 0 then 8 else 0
def Z5:FD
 |[.agg [.slice [.int .i64,.slice [.int .i64],.slice [.int .i64]] r,.slice [.int .i64,.int .u8,.int .i64,.int .i64,.int .i64,.int .i64,.int .i64,.int .i64] s]]=>some (r.n<=1000000∧CkP r r.n∧s.n<=2000,[.v (i64 (J3 r))])
 |_=>none
def Ab4:Den Tryz.prog 75 Z5:=Af Ajj fun ds rs h=>by
 unfold Z5 at h;split at h
 ·rename_i r s;simp only[A5,A6,A3]at h;obtain⟨⟨h0,h1,h2⟩,rfl⟩:=h;refine(uak r s).trans ?_;rw[AB (show¬(s.n:Int)>2000 by omega),Ac,c_lk6_iff.2 ⟨rfl,rfl,rfl,h0,h1⟩,Aa,c_lk13_iff.2 ⟨rfl,rfl,rfl,h0⟩,Aa];exact Cb fun _=>Cb fun _=>Cb fun _=>Cb fun _=>rfl
 ·cases h
def FPc(c:Row->Row->Bool)(b:Row->Row->Int):FD
 |[.slice [.int .i64,.slice [.int .i64],.slice [.int .i64]] r,.agg [.slice [.slice [.int .i64,.int .i64,.int .i64,.int .i64]] p]]=>some (c r p,[.v (i64 (b r p))])
 |_=>none
def SpP(s:Row)(n:Nat):Prop:=∀i,i<n->(s.R i 0).n<=1000000∧∀k,k<(s.R i 0).n->Nq (s.R i 0) k=true
instance(s:Row)(n:Nat):Decidable (SpP s n):=by unfold SpP;infer_instance
def IW(s:Row)(j:Nat):Int:=NF (w_ (s.R j 0) 0 (s.R j 0).n)
def vC:Dl:={τ:=[.v (.sl 0)]++pu 2++[.v (.c (.pointer (some ⟨1,0,some 0⟩)))]++pu 21++[.v (.sl 2),.v (.int .i64),.v (.int .i64)]++pu 43,saved:=[[]],mem:=[.row DV false,.box [.v (.sl 2)],.row Fh false]}
structure A_lp7 where
 rn:Nat
 n:Nat
 len:Int
 j:Int
 r:Row
 n_2:Nat
 s:Row
def vY(its:List It):Option A_lp7:=match its with|[.n rn,.n n,.i len,.i j,.r r,.n n_2,.r s]=>some ⟨rn,n,len,j,r,n_2,s⟩|_=>none
def pR(x:A_lp7):Bool:=x.j=0∧x.len=x.n∧x.n_2=x.n∧x.n<=1000000∧SpP x.s x.n
def c_lp7_iff{x:A_lp7}:=@Bl _ pR _ _ rfl x
def lp7:ScanL A_lp7:=⟨32,7,[0,3,25,26,27],[0,3,4],vC,vY,fun x j=>[.n x.rn,.n x.n,.i (x.n:Int),.i (j:Int),.r x.r,.n x.n,.r x.s],fun x=>x.n,pR,fun x j=>IW x.s j !=0,fun x j K=>K .ret ⟨[S_ 0 0 x.rn]++us 2++[.pointer (some ⟨1,0,some 0⟩),i64 (IW x.s j)]++us 66,[[]],[Au DV x.r,some (.box [S_ 2 0 x.n]),Au Fh x.s]⟩,fun x K=>K (.exit 0) ⟨[S_ 0 0 x.rn]++us 2++[.pointer (some ⟨1,0,some 0⟩)]++us 67,[[]],[Au DV x.r,some (.box [S_ 2 0 x.n]),Au Fh x.s]⟩⟩
def Am9:FD
 |[.v (.int .i64 a)]=>some (Rt.iR a,[.agg [.v (i64 a),.v (i64 1)]])
 |_=>none
noncomputable def Cwh:Cx:=AP Tryz.prog fns [] []
def Ahc:Be Cwh:=Aj enter mixed AX AX
def uwh(a:Int):BH Cwh 6 78 [.v (i64 a)]=some [.agg [.v (i64 a),.v (i64 1)]]:=k_
def yT:Den Tryz.prog 78 Am9:=Af Ahc fun ds rs h=>by
 unfold Am9 at h;split at h
 ·rename_i a;simp only[A5,A6]at h;obtain⟨h0,rfl⟩:=h;obtain⟨h1,h2⟩:=Rt.iR_iff.1 h0;refine(uwh a).trans ?_
  first|rfl|rw[wrap64 o_ o_]
 ·cases h
def Qr(r s:Row)(j:Nat):Bool:=bif ((s.R j 0).n:Int)>0 then decide ((s.R j 0).I 0 0<0)||decide (Rt.cpC (r.I 0 0) 1 ((s.R j 0).I ((s.R j 0).n-1) 2) ((s.R j 0).I ((s.R j 0).n-1) 3)<0)else false
def Rz:Dl:={τ:=[.v (.sl 0)]++pu 37++[.v (.sl 1),.v (.int .i64),.v (.int .i64)]++pu 30,saved:=[[]],mem:=[.row DV false,.row Fh false]}
structure A_lp14 where
 rn:Nat
 n:Nat
 len:Int
 j:Int
 r:Row
 s:Row
def WP(its:List It):Option A_lp14:=match its with|[.n rn,.n n,.i len,.i j,.r r,.r s]=>some ⟨rn,n,len,j,r,s⟩|_=>none
def Wx(x:A_lp14):Bool:=x.j=0∧x.len=x.n∧x.n<=1000000∧SpP x.s x.n∧1<=x.rn∧Rt.iR (x.r.I 0 0)=true
def c_lp14_iff{x:A_lp14}:=@Bl _ Wx _ _ rfl x
def lp14:ScanL A_lp14:=⟨32,14,[0,38,39,40],[4],Rz,WP,fun x j=>[.n x.rn,.n x.n,.i (x.n:Int),.i (j:Int),.r x.r,.r x.s],fun x=>x.n,Wx,fun x j=>Qr x.r x.s j,fun x j K=>K .ret ⟨us 4++[i64 2]++us 66,[[]],[]⟩,fun x K=>K (.exit 2) ⟨us 71,[[]],[]⟩⟩
noncomputable def Cp7:Cx:=AP Tryz.prog fns [(75,Z5),(76,ZN),(77,Akt),(78,Am9)] [lp7.C,lp14.C]
def Ae1(R:St->OD)(K:X->St->OD)(q rn n:Nat)(len j:Int)(r:Row)(n_2:Nat)(s:Row):Ak Cp7 32 7 q (bst vC [.n rn,.n n,.i len,.i j,.r r,.n n_2,.r s]) (BF [0,3,25,26,27] (some [0,3,4]) R K)=br (j<len) (br (0<=j&&j<(n:Int)) (br (decide ((w_ (s.R (0+j.toNat) 0) 0 (s.R (0+j.toNat) 0).n).n<=1000000∧∀(i:Nat),i<(w_ (s.R (0+j.toNat) 0) 0 (s.R (0+j.toNat) 0).n).n->Nq (w_ (s.R (0+j.toNat) 0) 0 (s.R (0+j.toNat) 0).n) i=true)) (br (NF (w_ (s.R (0+j.toNat) 0) 0 (s.R (0+j.toNat) 0).n) !=0) (K .ret ⟨[S_ 0 0 rn]++us 2++[.pointer (some ⟨1,0,some 0⟩),i64 (NF (w_ (s.R (0+j.toNat) 0) 0 (s.R (0+j.toNat) 0).n))]++us 66,[[]],[Au DV r,some (.box [S_ 2 0 n_2]),Au Fh s]⟩) (R (bst vC [.n rn,.n n,.i len,.i (IntKind.i64.wrap (j+1)),.r r,.n n_2,.r s]))) none) none) (lp7.Ke ⟨rn,n_2,len,j,r,n_2,s⟩ K):=k_
def vK(R:St->OD)(K:X->St->OD)(q rn n:Nat)(len j:Int)(r s:Row):Ak Cp7 32 14 q (bst Rz [.n rn,.n n,.i len,.i j,.r r,.r s]) (BF [0,38,39,40] (some [4]) R K)=br (j<len) (br (0<=j&&j<(n:Int)) (br ((↑(s.R (0+j.toNat) 0).n:Int)>0) (br ((0:Int)<=0&&0<(↑(s.R (0+j.toNat) 0).n:Int)) (br ((s.R (0+j.toNat) 0).I (0+0) 0<0) (lp14.Kb ⟨rn,n,len,j,r,s⟩ 0 K) (br ((0:Int)<=0&&0<(rn:Int)) (br (Rt.iR (r.I 0 0)) (br (0<=IntKind.i64.wrap ((↑(s.R (0+j.toNat) 0).n:Int)-1)&&IntKind.i64.wrap ((↑(s.R (0+j.toNat) 0).n:Int)-1)<(↑(s.R (0+j.toNat) 0).n:Int)) (br (Rt.iR (r.I 0 0)&&Rt.iR 1&&Rt.iR ((s.R (0+j.toNat) 0).I (0+(IntKind.i64.wrap ((↑(s.R (0+j.toNat) 0).n:Int)-1)).toNat) 2)&&Rt.iR ((s.R (0+j.toNat) 0).I (0+(IntKind.i64.wrap ((↑(s.R (0+j.toNat) 0).n:Int)-1)).toNat) 3)) (br (Rt.cpC (r.I (0+0) 0) 1 ((s.R (0+j.toNat) 0).I (0+(IntKind.i64.wrap ((↑(s.R (0+j.toNat) 0).n:Int)-1)).toNat) 2) ((s.R (0+j.toNat) 0).I (0+(IntKind.i64.wrap ((↑(s.R (0+j.toNat) 0).n:Int)-1)).toNat) 3)<0) (lp14.Kb ⟨rn,n,len,j,r,s⟩ 0 K) (R (bst Rz [.n rn,.n n,.i len,.i (IntKind.i64.wrap (j+1)),.r r,.r s]))) none) none) none) none)) none) (R (bst Rz [.n rn,.n n,.i len,.i (IntKind.i64.wrap (j+1)),.r r,.r s]))) none) (K (.exit 2) ⟨us 71,[[]],[]⟩):=k_
def up7(r s:Row):BH Cp7 6 32 [.slice DV r,.agg [.slice Fh s]]=br (decide ((w_ r 0 r.n).n<=1000000∧CkP (w_ r 0 r.n) (w_ r 0 r.n).n∧Row.nil.n<=2000)) (br (J3 (w_ r 0 r.n) !=0) (some [.v (i64 (J3 (w_ r 0 r.n)))]) (br ((s.n:Int) !=(r.n:Int)) (some [.v (i64 2)]) (br (pR (⟨r.n,s.n,(s.n:Int),0,r,s.n,s⟩:A_lp7)) (br (Ag (fun j=>IW s j !=0) s.n 0) (some [.v (i64 (IW s (FZ (fun j=>IW s j !=0) s.n 0)))]) (br (Wx (⟨r.n,s.n,(s.n:Int),0,r,s⟩:A_lp14)) (br (Ag (fun j=>Qr r s j) s.n 0) (some [.v (i64 2)]) (some [.v (i64 0)])) none)) none))) (none):=k_
def Aij:Ah Cp7 lp7.C:=lp7.ok k_
 (fun its x h hc=>by
  replace h:vY its=some x:=h;unfold vY at h;split at h
  ·cases h;have h:=c_lp7_iff.1 hc;dsimp only at h;obtain⟨rfl,rfl,rfl,_⟩:=h;rfl
  ·cases h)
 (fun x hc=>by have:=c_lp7_iff.1 hc;show x.n<2^64;omega)
 (fun q ⟨rn,n,len0,j0,r,n_2,s⟩ j hc hi R K=>by
  obtain⟨h1,h2,h3,h4,h5⟩:=c_lp7_iff.1 hc;dsimp only at*
  replace hi:j<n:=hi;refine(Ae1 R K q rn n ((n:Int)) ((j:Int)) r n s).trans ?_;have k1:=h5 j hi;rw[A9,AE j,gd j n hi,DX j n hi,Eg o_,A4 (show(w_ (s.R j 0) 0 (s.R j 0).n).n<=1000000∧∀i,i<(w_ (s.R j 0) 0 (s.R j 0).n).n->Nq (w_ (s.R j 0) 0 (s.R j 0).n) i=true by rw[wn_];exact⟨k1.1,fun i hi=>by rw[Og];exact k1.2 i hi⟩)];rfl)
 (fun q ⟨rn,n,len0,j0,r,n_2,s⟩ hc R K=>by
  obtain⟨h1,h2,h3,h4,h5⟩:=c_lp7_iff.1 hc;dsimp only at*
  refine(Ae1 R K q rn n ((n:Int)) ((n:Int)) r n s).trans ?_;rw[EU n];rfl)
def Ab5:Ah Cp7 lp14.C:=lp14.ok k_
 (fun its x h hc=>by
  replace h:WP its=some x:=h;unfold WP at h;split at h
  ·cases h;have h:=c_lp14_iff.1 hc;dsimp only at h;obtain⟨rfl,rfl,_⟩:=h;rfl
  ·cases h)
 (fun x hc=>by have:=c_lp14_iff.1 hc;show x.n<2^64;omega)
 (fun q ⟨rn,n,len0,j0,r,s⟩ j hc hi R K=>by
  obtain⟨h1,h2,h3,h4,h5,h6⟩:=c_lp14_iff.1 hc;dsimp only at*
  replace hi:j<n:=hi;refine(vK R K q rn n ((n:Int)) ((j:Int)) r s).trans ?_;have k1:=h4 j hi;rw[A9,AE j,gd j n hi,DX j n hi,Eg o_,show(decide ((0:Int)<=0)&&decide ((0:Int)<(rn:Int)))=true by simp;omega,h6];by_cases hz:0<(s.R j 0).n
  ·have k2:=k1.2 ((s.R j 0).n-1) o_;unfold Nq at k2;simp only[A2]at k2;have e:lp14.bad ⟨rn,n,len0,j0,r,s⟩ j=(decide ((s.R j 0).I 0 0<0)||decide (Rt.cpC (r.I 0 0) 1 ((s.R j 0).I ((s.R j 0).n-1) 2) ((s.R j 0).I ((s.R j 0).n-1) 3)<0)):=by
    show Qr r s j=_;unfold Qr;rw[A4 (show((s.R j 0).n:Int)>0 by omega)];rfl
   rw[e,Fz,A4 (show((s.R j 0).n:Int)>0 by omega),show(decide ((0:Int)<=0)&&true)=true from rfl,show IntKind.i64.wrap (((s.R j 0).n:Int)-1)=(((s.R j 0).n-1:Nat):Int)from(wrap64 o_ o_).trans o_,A9,AE ((s.R j 0).n-1),gd _ _ (show(s.R j 0).n-1<(s.R j 0).n by omega),k2.1.2,k2.2,show Rt.iR 1=true from rfl];rfl
  ·have e:lp14.bad ⟨rn,n,len0,j0,r,s⟩ j=false:=by
    show Qr r s j=_;unfold Qr;rw[AB (show¬((s.R j 0).n:Int)>0 by omega)];rfl
   rw[e,AB (show¬((s.R j 0).n:Int)>0 by omega)];rfl)
 (fun q ⟨rn,n,len0,j0,r,s⟩ hc R K=>by
  obtain⟨h1,h2,h3,h4,h5,h6⟩:=c_lp14_iff.1 hc;dsimp only at*
  refine(vK R K q rn n ((n:Int)) ((n:Int)) r s).trans ?_;rw[EU n];rfl)
def Aif:Be Cp7:=Aj enter mixed (Aw Ab4<|Aw Acl<|Aw yF<|Aw yT AX) (Aw Aij<|Aw Ab5 AX)
def LQ{l:Int}{p q:Row}(h:Ky l p q=0):1<=l∧l<=1000:=by
 unfold Ky at h;cases h1:decide (l>1000)
 ·rw[h1]at h;cases h2:decide ((p.n:Int)>40)
  ·rw[h2]at h;cases h3:decide (l<1)
   ·have:=AO h1;have:=AO h3;omega
   ·rw[h3]at h;exact absurd h y_
  ·rw[h2]at h;exact absurd h y_
 ·rw[h1]at h;exact absurd h y_
def QZ{r:Row}(h:J3 r=0):1<=r.n∧r.n<=6∧(∀j,j<r.n->Ju r j=0)∧∀j,j<r.n->r.I j 0=r.I 0 0:=by
 unfold J3 at h;cases h1:decide ((r.n:Int)>6)
 ·rw[h1]at h;cases h2:(r.n:Int)==0
  ·rw[h2]at h;cases h3:Ag (fun j=>Ju r j !=0) r.n 0
   ·rw[h3]at h;cases h4:Ag (fun j=>r.I j 0 !=r.I 0 0) r.n 0
    ·have:=AO h1;have h2':¬(r.n:Int)=0:=by simpa using h2
     refine⟨o_,o_,fun j hj=>?_,fun j hj=>?_⟩
     ·simpa using anyF_false.1 h3 j (Nat.zero_le _) o_
     ·simpa using anyF_false.1 h4 j (Nat.zero_le _) o_
    ·rw[h4]at h;exact absurd h y_
   ·rw[h3]at h;have:=(Ov _ _ _ h3).2.1;simp only[cond_true,cond_false]at h;rw[h]at this;cases this
  ·rw[h2]at h;exact absurd h y_
 ·rw[h1]at h;exact absurd h y_
def Qh(r s:Row):Int:=bif J3 r !=0 then J3 r else bif (s.n:Int) !=(r.n:Int)then 2 else bif Ag (fun j=>IW s j !=0) s.n 0 then IW s (FZ (fun j=>IW s j !=0) s.n 0)else bif Ag (Qr r s) s.n 0 then 2 else 0
def ND(r s:Row):Bool:=r.n<=1000000∧CkP r r.n∧s.n<=1000000∧SpP s s.n
def den_pro:Den Tryz.prog 32 (FPc ND Qh):=Af Aif fun ds rs h=>by
 unfold FPc at h;split at h
 ·rename_i r s;simp only[A5,A6]at h;obtain⟨h0,rfl⟩:=h;obtain⟨g1,g2,g3,g4⟩:=AD h0;refine(up7 r s).trans ?_;refine Fp (A4 ⟨by rw[wn_];exact g1,fun i hi=>g2 i hi,Nat.zero_le _⟩) ?_;rw[c_lp7_iff.2 ⟨rfl,rfl,rfl,g3,g4⟩,Aa];refine Cb fun h1=>Cb fun h2=>Cb fun h3=>?_;have ha:J3 r=0:=by simpa using(show(J3 r !=0)=false from h1)
  obtain⟨a1,_,a3,_⟩:=QZ ha;have l1:=LQ (a3 0 o_);refine Fp (c_lp14_iff.2 ⟨rfl,rfl,g3,g4,a1,Rt.iR_iff.2 ?_⟩) (Cb fun h4=>rfl);show-9223372036854775808<=r.I 0 0∧r.I 0 0<9223372036854775808;omega
 ·cases h
def Rg2(t:Row)(m:Nat):Prop:=∀i,i<m->(Rt.iR (t.I i 0)&&Rt.iR (t.I i 1))=true
instance(t:Row)(m:Nat):Decidable (Rg2 t m):=by unfold Rg2;infer_instance
def SqP(r:Row)(n:Nat):Prop:=∀i,i<n->(r.R i 0).n<=1000000∧Rg2 (r.R i 0) (r.R i 0).n
instance(r:Row)(n:Nat):Decidable (SqP r n):=by unfold SqP;infer_instance
def JZ(t:Row):Bool:=Ag (fun i=>Rt.chkE (t.I i 0) (t.I i 1) !=0) t.n 0
def pV:Dl:={τ:=[.v (.sl 0),.v (.int .i64)]++pu 4++[.v (.sl 1)]++pu 2++[.v (.sl 0),.v (.int .i64),.v (.int .i64)]++pu 3++[.v (.sl 1),.v (.int .i64),.v (.int .i64)]++pu 16,saved:=[[]],mem:=[.row Es false,.row JD false]}
structure A_l5s where
 n:Nat
 k:Int
 m:Nat
 n_2:Nat
 lo:Int
 jo:Int
 m_2:Nat
 len:Int
 j:Int
 r:Row
 t:Row
def uM(its:List It):Option A_l5s:=match its with|[.n n,.i k,.n m,.n n_2,.i lo,.i jo,.n m_2,.i len,.i j,.r r,.r t]=>some ⟨n,k,m,n_2,lo,jo,m_2,len,j,r,t⟩|_=>none
def eX(x:A_l5s):Bool:=x.j=0∧x.len=x.m∧x.n_2=x.n∧x.m_2=x.m∧x.m<=1000000∧Rg2 x.t x.m
def c_l5s_iff{x:A_l5s}:=@Bl _ eX _ _ rfl x
def l5s:ScanL A_l5s:=⟨33,5,[0,1,6,9,10,11,15,16,17],[0,1,4,6,9,10,11],pV,uM,fun x j=>[.n x.n,.i x.k,.n x.m,.n x.n,.i x.lo,.i x.jo,.n x.m,.i (x.m:Int),.i (j:Int),.r x.r,.r x.t],fun x=>x.m,eX,fun x j=>Rt.chkE (x.t.I j 0) (x.t.I j 1) !=0,fun x j K=>K .ret ⟨[S_ 0 0 x.n,i64 x.k]++us 2++[.bool false]++us 1++[S_ 1 0 x.m]++us 2++[S_ 0 0 x.n,i64 x.lo,i64 x.jo]++us 22,[[]],[Au Es x.r,Au JD x.t]⟩,fun x K=>K (.exit 2) ⟨[S_ 0 0 x.n,i64 x.k]++us 4++[S_ 1 0 x.m]++us 2++[S_ 0 0 x.n,i64 x.lo,i64 x.jo]++us 22,[[]],[Au Es x.r,Au JD x.t]⟩⟩
def wX:Dl:={τ:=[.v (.sl 0),.v (.int .i64)]++pu 7++[.v (.sl 0),.v (.int .i64),.v (.int .i64)]++pu 22,saved:=[[]],mem:=[.row Es false]}
structure A_l2s where
 n:Nat
 k:Int
 n_2:Nat
 len:Int
 j:Int
 r:Row
def rJ(its:List It):Option A_l2s:=match its with|[.n n,.i k,.n n_2,.i len,.i j,.r r]=>some ⟨n,k,n_2,len,j,r⟩|_=>none
def qF(x:A_l2s):Bool:=x.j=0∧x.len=x.n∧x.n_2=x.n∧x.n<=1000000∧SqP x.r x.n
def c_l2s_iff{x:A_l2s}:=@Bl _ qF _ _ rfl x
def l2s:ScanL A_l2s:=⟨33,2,[0,1,9,10,11],[0,1,4],wX,rJ,fun x j=>[.n x.n,.i x.k,.n x.n,.i (x.n:Int),.i (j:Int),.r x.r],fun x=>x.n,qF,fun x j=>JZ (x.r.R j 0)||((x.r.R j 0).n:Int) !=x.k,fun x j K=>K .ret ⟨[S_ 0 0 x.n,i64 x.k]++us 2++[.bool false]++us 29,[[]],[Au Es x.r]⟩,fun x K=>K (.exit 0) ⟨[S_ 0 0 x.n,i64 x.k]++us 32,[[]],[Au Es x.r]⟩⟩
noncomputable def Csq:Cx:=AP Tryz.prog fns [(79,Rt.Fchk)] [l5s.C,l2s.C]
def Ad1(R:St->OD)(K:X->St->OD)(q n:Nat)(k:Int)(m n_2:Nat)(lo jo:Int)(m_2:Nat)(len j:Int)(r t:Row):Ak Csq 33 5 q (bst pV [.n n,.i k,.n m,.n n_2,.i lo,.i jo,.n m_2,.i len,.i j,.r r,.r t]) (BF [0,1,6,9,10,11,15,16,17] (some [0,1,4,6,9,10,11]) R K)=br (j<len) (br (0<=j&&j<(m_2:Int)) (br (Rt.iR (t.I (0+j.toNat) 0)&&Rt.iR (t.I (0+j.toNat) 1)) (br (Rt.chkE (t.I (0+j.toNat) 0) (t.I (0+j.toNat) 1) !=0) (K .ret ⟨[S_ 0 0 n,i64 k]++us 2++[.bool false]++us 1++[S_ 1 0 m]++us 2++[S_ 0 0 n_2,i64 lo,i64 jo]++us 22,[[]],[Au Es r,Au JD t]⟩) (R (bst pV [.n n,.i k,.n m,.n n_2,.i lo,.i jo,.n m_2,.i len,.i (IntKind.i64.wrap (j+1)),.r r,.r t]))) none) none) (K (.exit 2) ⟨[S_ 0 0 n,i64 k]++us 4++[S_ 1 0 m]++us 2++[S_ 0 0 n_2,i64 lo,i64 jo]++us 22,[[]],[Au Es r,Au JD t]⟩):=k_
def Afi(R:St->OD)(K:X->St->OD)(q n:Nat)(k:Int)(n_2:Nat)(len j:Int)(r:Row):Ak Csq 33 2 q (bst wX [.n n,.i k,.n n_2,.i len,.i j,.r r]) (BF [0,1,9,10,11] (some [0,1,4]) R K)=br (j<len) (br (0<=j&&j<(n_2:Int)) (br (eX (⟨n,k,(r.R (0+j.toNat) 0).n,n_2,len,j,(r.R (0+j.toNat) 0).n,(↑(r.R (0+j.toNat) 0).n:Int),0,r,r.R (0+j.toNat) 0⟩:A_l5s)) (br (Ag (fun j_1=>Rt.chkE ((r.R (0+j.toNat) 0).I j_1 0) ((r.R (0+j.toNat) 0).I j_1 1) !=0) (r.R (0+j.toNat) 0).n 0) (l2s.Kb ⟨n,k,n_2,len,j,r⟩ 0 K) (br ((↑(r.R (0+j.toNat) 0).n:Int) !=k) (l2s.Kb ⟨n,k,n_2,len,j,r⟩ 0 K) (R (bst wX [.n n,.i k,.n n,.i len,.i (IntKind.i64.wrap (j+1)),.r r])))) none) none) (l2s.Ke ⟨n,k,n_2,len,j,r⟩ K):=k_
def usq(r:Row)(k:Int):BH Csq 6 33 [.slice Es r,.v (i64 k)]=br (qF (⟨r.n,k,r.n,(r.n:Int),0,r⟩:A_l2s)) (br (Ag (fun j=>JZ (r.R j 0)||(↑(r.R j 0).n:Int) !=k) r.n 0) (some [.v (.bool false)]) (some [.v (.bool ((r.n:Int)==k))])) (none):=k_
def Amn:Ah Csq l5s.C:=l5s.ok k_
 (fun its x h hc=>by
  replace h:uM its=some x:=h;unfold uM at h;split at h
  ·cases h;have h:=c_l5s_iff.1 hc;dsimp only at h;obtain⟨rfl,rfl,rfl,rfl,_⟩:=h;rfl
  ·cases h)
 (fun x hc=>by have:=c_l5s_iff.1 hc;show x.m<2^64;omega)
 (fun q ⟨n,k,m,n_2,lo,jo,m_2,len0,j0,r,t⟩ j hc hi R K=>by
  obtain⟨h1,h2,h3,h4,h5,h6⟩:=c_l5s_iff.1 hc;dsimp only at*
  replace hi:j<m:=hi;refine(Ad1 R K q n k m n lo jo m ((m:Int)) ((j:Int)) r t).trans ?_;have k1:=h6 j hi;rw[A9,AE j,gd j m hi,DX j m hi,Eg o_,k1];rfl)
 (fun q ⟨n,k,m,n_2,lo,jo,m_2,len0,j0,r,t⟩ hc R K=>by
  obtain⟨h1,h2,h3,h4,h5,h6⟩:=c_l5s_iff.1 hc;dsimp only at*
  refine(Ad1 R K q n k m n lo jo m ((m:Int)) ((m:Int)) r t).trans ?_;rw[EU m];rfl)
def Agm:Ah Csq l2s.C:=l2s.ok k_
 (fun its x h hc=>by
  replace h:rJ its=some x:=h;unfold rJ at h;split at h
  ·cases h;have h:=c_l2s_iff.1 hc;dsimp only at h;obtain⟨rfl,rfl,rfl,_⟩:=h;rfl
  ·cases h)
 (fun x hc=>by have:=c_l2s_iff.1 hc;show x.n<2^64;omega)
 (fun q ⟨n,k,n_2,len0,j0,r⟩ j hc hi R K=>by
  obtain⟨h1,h2,h3,h4,h5⟩:=c_l2s_iff.1 hc;dsimp only at*
  replace hi:j<n:=hi;refine(Afi R K q n k n ((n:Int)) ((j:Int)) r).trans ?_;have k1:=h5 j hi;rw[A9,AE j,gd j n hi,DX j n hi,Eg o_,Aa,Aa];refine(congrArg (fun c=>br c _ _) (c_l5s_iff.2 ⟨rfl,rfl,rfl,rfl,k1.1,k1.2⟩)).trans ?_;rw[Aa];exact(Fz _ _ _ _).symm)
 (fun q ⟨n,k,n_2,len0,j0,r⟩ hc R K=>by
  obtain⟨h1,h2,h3,h4,h5⟩:=c_l2s_iff.1 hc;dsimp only at*
  refine(Afi R K q n k n ((n:Int)) ((n:Int)) r).trans ?_;rw[EU n];rfl)
def Ahk:Be Csq:=Aj enter mixed (Aw Rt.den_chk AX) (Aw Amn<|Aw Agm AX)
def ZH(r:Row)(k:Int):Bool:= !(Ag (fun j=>JZ (r.R j 0)||((r.R j 0).n:Int) !=k) r.n 0)&&((r.n:Int)==k)
def aX(r:Row)(_:Int):Bool:=r.n<=1000000∧SqP r r.n
def FSq(c b:Row->Int->Bool):FD
 |[.slice [.slice [.int .i64,.int .i64]] r,.v (.int .i64 n)]=>some (c r n,[.v (.bool (b r n))])
 |_=>none
def den_sq:Den Tryz.prog 33 (FSq aX ZH):=Af Ahk fun ds rs h=>by
 unfold FSq at h;split at h
 ·rename_i r k;simp only[A5,A6]at h;obtain⟨h0,rfl⟩:=h;have h0:=AD h0;refine(usq r k).trans ?_;rw[c_l2s_iff.2 ⟨rfl,rfl,rfl,h0⟩,Aa];unfold ZH;show br (Ag (fun j=>JZ (r.R j 0)||((r.R j 0).n:Int) !=k) r.n 0) _ _=_;cases Ag (fun j=>JZ (r.R j 0)||((r.R j 0).n:Int) !=k) r.n 0<;>rfl
 ·cases h
def RV(v:Int):Bool:=decide (v<0)||decide (v>1000000)
def wO:Dl:={τ:=[.v (.sl 0),.v (.c (.func (.func 128) #[] #[]))]++pu 5++[.v (.int .i64),.v (.int .i64)]++pu 10,saved:=[[.v (.sl 0),.v (.c (.func (.func 128) #[] #[]))]++pu 2++[.v (.c (.bool false)),.v (.sl 0),.v (.c (.func (.func 128) #[] #[]))]++pu 2,[]],mem:=[.row Ar false]}
structure A_la2 where
 n:Nat
 len:Int
 j:Int
 n_2:Nat
 n_3:Nat
 r:Row
def wC(its:List It):Option A_la2:=match its with|[.n n,.i len,.i j,.n n_2,.n n_3,.r r]=>some ⟨n,len,j,n_2,n_3,r⟩|_=>none
def kM(x:A_la2):Bool:=x.j=0∧x.len=x.n∧x.n_2=x.n∧x.n_3=x.n∧x.n<=1000000
def c_la2_iff{x:A_la2}:=@Bl _ kM _ _ rfl x
def la2:ScanL A_la2:=⟨126,2,[0,1,7,8],[4],wO,wC,fun x j=>[.n x.n,.i (x.n:Int),.i (j:Int),.n x.n,.n x.n,.r x.r],fun x=>x.n,kM,fun x j=>RV (x.r.I j 0),fun x j K=>K .ret ⟨us 4++[i64 ((j:Int))]++us 14,[[S_ 0 0 x.n,.func (.func 128) #[] #[]]++us 2++[.bool false,S_ 0 0 x.n,.func (.func 128) #[] #[]]++us 2,[]],[Au Ar x.r]⟩,fun x K=>K (.exit 0) ⟨us 19,[[S_ 0 0 x.n,.func (.func 128) #[] #[]]++us 2++[.bool false,S_ 0 0 x.n,.func (.func 128) #[] #[]]++us 2,[]],[Au Ar x.r]⟩⟩
noncomputable def Ca2:Cx:=AP Tryz.prog fns [] [la2.C]
def Afq(R:St->OD)(K:X->St->OD)(q n:Nat)(len j:Int)(n_2 n_3:Nat)(r:Row):Ak Ca2 126 2 q (bst wO [.n n,.i len,.i j,.n n_2,.n n_3,.r r]) (BF [0,1,7,8] (some [4]) R K)=br (j<len) (br (0<=j&&j<(n:Int)) (br (r.I (0+j.toNat) 0<0) (K .ret ⟨us 4++[i64 j]++us 14,[[S_ 0 0 n_2,.func (.func 128) #[] #[]]++us 2++[.bool false,S_ 0 0 n_3,.func (.func 128) #[] #[]]++us 2,[]],[Au Ar r]⟩) (br (r.I (0+j.toNat) 0>1000000) (K .ret ⟨us 4++[i64 j]++us 14,[[S_ 0 0 n_2,.func (.func 128) #[] #[]]++us 2++[.bool false,S_ 0 0 n_3,.func (.func 128) #[] #[]]++us 2,[]],[Au Ar r]⟩) (R (bst wO [.n n,.i len,.i (IntKind.i64.wrap (j+1)),.n n_2,.n n_3,.r r])))) none) (K (.exit 0) ⟨us 19,[[S_ 0 0 n_2,.func (.func 128) #[] #[]]++us 2++[.bool false,S_ 0 0 n_3,.func (.func 128) #[] #[]]++us 2,[]],[Au Ar r]⟩):=k_
def ua2(r:Row):BH Ca2 6 83 [.slice Hf r,.v (.func (.func 128) #[] #[])]=br (kM (⟨r.n,(r.n:Int),0,r.n,r.n,r⟩:A_la2)) (br (Ag (fun j=>RV (r.I j 0)) r.n 0) (some [.v (.bool ((↑(FZ (la2.bad (⟨r.n,(r.n:Int),0,r.n,r.n,r⟩:A_la2)) (la2.len (⟨r.n,(r.n:Int),0,r.n,r.n,r⟩:A_la2)) 0):Int)>=0))]) (some [.v (.bool (-1>=0))])) (none):=k_
def Al2:Ah Ca2 la2.C:=la2.ok k_
 (fun its x h hc=>by
  replace h:wC its=some x:=h;unfold wC at h;split at h
  ·cases h;have h:=c_la2_iff.1 hc;dsimp only at h;obtain⟨rfl,rfl,rfl,rfl,_⟩:=h;rfl
  ·cases h)
 (fun x hc=>by have:=c_la2_iff.1 hc;show x.n<2^64;omega)
 (fun q ⟨n,len0,j0,n_2,n_3,r⟩ j hc hi R K=>by
  obtain⟨h1,h2,h3,h4,h5⟩:=c_la2_iff.1 hc;dsimp only at*
  replace hi:j<n:=hi;refine(Afq R K q n ((n:Int)) ((j:Int)) n n r).trans ?_;rw[A9,AE j,gd j n hi,DX j n hi,Eg o_,Aa,Aa];exact(Fz _ _ _ _).symm)
 (fun q ⟨n,len0,j0,n_2,n_3,r⟩ hc R K=>by
  obtain⟨h1,h2,h3,h4,h5⟩:=c_la2_iff.1 hc;dsimp only at*
  refine(Afq R K q n ((n:Int)) ((n:Int)) n n r).trans ?_;rw[EU n];rfl)
def Amr:Be Ca2:=Aj enter mixed AX (Aw Al2 AX)
def Ib(r:Row):Bool:=Ag (fun j=>RV (r.I j 0)) r.n 0
def Amj:FD
 |[.slice [.int .i64] r,.v (.func (.func 128) ⟨[]⟩ ⟨[]⟩)]=>some (r.n<=1000000,[.v (.bool (Ib r))])
 |_=>none
def zZ:Den Tryz.prog 83 Amj:=Af Amr fun ds rs h=>by
 unfold Amj at h;split at h
 ·rename_i r;simp only[A5,A6]at h;obtain⟨h0,rfl⟩:=h;have h0:=AD h0;refine(ua2 r).trans ?_;rw[c_la2_iff.2 ⟨rfl,rfl,rfl,rfl,h0⟩,Aa];show br (Ib r) _ _=some [D.v (.bool (Ib r))];cases Ib r
  ·rfl
  ·rw[Aa,A4 o_]
 ·cases h
def VaP(r:Row)(n:Nat):Prop:=∀i,i<n->(r.R i 0).n<=1000000
instance(r:Row)(n:Nat):Decidable (VaP r n):=by unfold VaP;infer_instance
def Jt(r:Row)(n j:Nat):Bool:=((r.R j 0).n:Int) !=(n:Int)||Ib (r.R j 0)
def kL:Dl:={τ:=[.v (.sl 0)]++pu 2++[.v (.c (.func (.func 128) #[] #[]))]++pu 8++[.v (.sl 0),.v (.int .i64),.v (.int .i64)]++pu 14,saved:=[[]],mem:=[.row Cc false]}
structure A_la7 where
 n:Nat
 n_2:Nat
 len:Int
 j:Int
 r:Row
def oK(its:List It):Option A_la7:=match its with|[.n n,.n n_2,.i len,.i j,.r r]=>some ⟨n,n_2,len,j,r⟩|_=>none
def vP(x:A_la7):Bool:=x.j=0∧x.len=x.n∧x.n_2=x.n∧x.n<=1000000∧VaP x.r x.n
def c_la7_iff{x:A_la7}:=@Bl _ vP _ _ rfl x
def la7:ScanL A_la7:=⟨85,7,[0,3,12,13,14],[2],kL,oK,fun x j=>[.n x.n,.n x.n,.i (x.n:Int),.i (j:Int),.r x.r],fun x=>x.n,vP,fun x j=>Jt x.r x.n j,fun x j K=>K .ret ⟨us 2++[i64 8]++us 26,[[]],[]⟩,fun x K=>K (.exit 0) ⟨us 29,[[]],[]⟩⟩
noncomputable def Ca7:Cx:=AP Tryz.prog fns [(83,Amj)] [la7.C]
def Afe(R:St->OD)(K:X->St->OD)(q n n_2:Nat)(len j:Int)(r:Row):Ak Ca7 85 7 q (bst kL [.n n,.n n_2,.i len,.i j,.r r]) (BF [0,3,12,13,14] (some [2]) R K)=br (j<len) (br (0<=j&&j<(n_2:Int)) (br ((↑(r.R (0+j.toNat) 0).n:Int) !=(n:Int)) (la7.Kb ⟨n,n_2,len,j,r⟩ 0 K) (br ((w_ (r.R (0+j.toNat) 0) 0 (r.R (0+j.toNat) 0).n).n<=1000000) (br (Ib (w_ (r.R (0+j.toNat) 0) 0 (r.R (0+j.toNat) 0).n)) (la7.Kb ⟨n,n_2,len,j,r⟩ 0 K) (R (bst kL [.n n,.n n_2,.i len,.i (IntKind.i64.wrap (j+1)),.r r]))) none)) none) (la7.Ke ⟨n,n_2,len,j,r⟩ K):=k_
def ua7(r:Row):BH Ca7 6 85 [.slice Oc r]=br ((r.n:Int)>6) (some [.v (i64 4)]) (br ((r.n:Int)==0) (some [.v (i64 8)]) (br (vP (⟨r.n,r.n,(r.n:Int),0,r⟩:A_la7)) (br (Ag (fun j=>Jt r r.n j) r.n 0) (some [.v (i64 8)]) (some [.v (i64 0)])) none)):=k_
def Aj9:Ah Ca7 la7.C:=la7.ok k_
 (fun its x h hc=>by
  replace h:oK its=some x:=h;unfold oK at h;split at h
  ·cases h;have h:=c_la7_iff.1 hc;dsimp only at h;obtain⟨rfl,rfl,rfl,_⟩:=h;rfl
  ·cases h)
 (fun x hc=>by have:=c_la7_iff.1 hc;show x.n<2^64;omega)
 (fun q ⟨n,n_2,len0,j0,r⟩ j hc hi R K=>by
  obtain⟨h1,h2,h3,h4,h5⟩:=c_la7_iff.1 hc;dsimp only at*
  replace hi:j<n:=hi;refine(Afe R K q n n ((n:Int)) ((j:Int)) r).trans ?_;have k1:=h5 j hi;rw[A9,AE j,gd j n hi,DX j n hi,Eg o_,show decide ((w_ (r.R j 0) 0 (r.R j 0).n).n<=1000000)=true from A4 (by rw[wn_];exact k1),Aa,Aa,Aa];exact(Fz _ _ _ _).symm)
 (fun q ⟨n,n_2,len0,j0,r⟩ hc R K=>by
  obtain⟨h1,h2,h3,h4,h5⟩:=c_la7_iff.1 hc;dsimp only at*
  refine(Afe R K q n n ((n:Int)) ((n:Int)) r).trans ?_;rw[EU n];rfl)
def An0:Be Ca7:=Aj enter mixed (Aw zZ AX) (Aw Aj9 AX)
def Fg(r:Row):Int:=bif (r.n:Int)>6 then 4 else bif (r.n:Int)==0 then 8 else bif Ag (Jt r r.n) r.n 0 then 8 else 0
def GR(r:Row):Bool:=r.n<=1000000∧VaP r r.n
def X7:FD
 |[.slice [.slice [.int .i64]] r]=>some (GR r,[.v (i64 (Fg r))])
 |_=>none
def XT:Den Tryz.prog 85 X7:=Af An0 fun ds rs h=>by
 unfold X7 at h;split at h
 ·rename_i r;simp only[A5,A6]at h;obtain⟨h0,rfl⟩:=h;have h0:=AD h0;refine(ua7 r).trans ?_;rw[c_la7_iff.2 ⟨rfl,rfl,rfl,h0⟩,Aa];exact Cb fun _=>Cb fun _=>Cb fun _=>rfl
 ·cases h
noncomputable def Cro:Cx:=AP Tryz.prog fns [(85,X7)] []
def Aga:Be Cro:=Aj enter mixed (Aw XT AX) AX
def uro(r:Row)(n:Int):BH Cro 6 37 [.agg [.slice Oc r,.v (i64 n)]]=br (GR (w_ r 0 r.n)) (br (Fg (w_ r 0 r.n) !=0) (some [.v (i64 (Fg (w_ r 0 r.n)))]) (br (n<0) (some [.v (i64 8)]) (br (n>10000000) (some [.v (i64 8)]) (some [.v (i64 0)])))) (none):=k_
def Fv(r:Row)(n:Int):Int:=bif Fg r !=0 then Fg r else bif n<0 then 8 else bif n>10000000 then 8 else 0
def Ho(r:Row)(_:Int):Bool:=GR r
def yS(c:Row->Int->Bool)(b:Row->Int->Int):FD
 |[.agg [.slice [.slice [.int .i64]] r,.v (.int .i64 n)]]=>some (c r n,[.v (i64 (b r n))])
 |_=>none
def den_roo:Den Tryz.prog 37 (yS Ho Fv):=Af Aga fun ds rs h=>by
 unfold yS at h;split at h
 ·rename_i r n;simp only[A5,A6]at h;obtain⟨h0,rfl⟩:=h;refine(uro r n).trans ?_;refine Fp (show GR (w_ r 0 r.n)=true from h0) (Cb fun _=>Cb fun _=>Cb fun _=>rfl)
 ·cases h
end Go.Proofs.YtnljjjghpgdmoaaGreatDoor

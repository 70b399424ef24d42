import Derived.Test.YtnljjjghpgdmoaaGreatDoorXak
import Derived.RangeFuncBox
import Derived.RangeFuncLeaves
import Derived.Shelf.Abstract
import Derived.WalkKit
import Derived.OwnWalkIn
import Derived.TacticsInMore
import Derived.LoopNIn
import Derived.LoopIn
import Derived.Maps.AppendAt
import Derived.Lib.ItoaMem
import Derived.Lib.ParseIntB
import Derived.Lib.IndexMore
import Derived.Lib.ItoaLen
import Derived.Lib.ParseIntBTie
set_option linter.all false
namespace Go.Proofs.YtnljjjghpgdmoaaGreatDoor
open Go.RowKit Go.Shelf
set_option maxRecDepth 100000
attribute [local go_sem] Oper.semAt_some
def upto(f:Nat->Int)(k:Nat):List Int:=(List.range k).map f
theorem upto_succ(f:Nat->Int)(k:Nat):upto f (k+1)=upto f k++[f k]:=by simp[upto,List.range_succ]
theorem upto_length(f:Nat->Int)(k:Nat):(upto f k).length=k:=by simp[upto]
theorem MX(f:Nat->Int):∀{k n:Nat},k<=n->upto f k<+:upto f n
 |k,0,h=>by
  have:k=0:=by omega
  subst this;exact List.prefix_refl _
 |k,n+1,h=>by
  by_cases hk:k=n+1
  ·subst hk;exact List.prefix_refl _
  ·exact(MX f (show k<=n by omega)).trans (by rw[upto_succ];exact List.prefix_append _ _)
set_option maxHeartbeats 2000000 in
theorem values1_in(F:Fence)(n:Nat)(h7:F.fn 193)(hro:F.round=none)(hn:1<=n)(l Bs n₀ b off len cap:Nat)(z:Nat->Int)(hreach:len*8<=140737488351232)(hb:b<n₀)(J Jx:List Int->World->Prop)
  (hY:∀pre x W,J pre W->pre.length<len->YieldAt F (n-1) Tryz.prog l #[.int .i64 x] W fun e W'=>
   (e=.returned (.bool true)∧J (pre++[x]) W'∧Below n₀ W W')∨(e=.returned (.bool false)∧Jx (pre++[x]) W'))
  (W:World) (hBs:W.cell? ⟨Bs,0,none⟩=some (.slice (some ⟨b,off,none⟩) len cap)) (hc:∀j,j<len->W.cell? ⟨b,off+j,none⟩=some (.int .i64 (z j))) (h0:J [] W):
  CallsIn F n Tryz.prog 193 #[.func (.yield l) #[] #[],.pointer (some ⟨Bs,0,none⟩)] W fun e W'=>(∃v,e=.returned v)∧
   ((∃ys,ys=upto z len∧J ys W')∨(∃pre,(∃k,k<=len∧pre=upto z k)∧Jx pre W')):=by
 refine callsIn_of_wp Tryz.func193 rfl h7 ?_ hro;simp only[Tryz.ntmps193,List.size_toArray,List.length_cons,List.length_nil,Nat.reduceAdd,Nat.reduceSub,Array.replicate_succ,Array.replicate_zero,List.push_toArray,List.append_toArray,List.nil_append,List.cons_append]
 gi_wp2
 gi_loopw [7] (fun i wr=>∃k:Nat,k<=len∧i=.int .i64 k∧J (upto z k) wr∧Below n₀ W wr)
  (fun i _=>len-(intOf i).toNat)
 case atStart=>exact⟨0,Nat.zero_le _,rfl,h0,Below.refl _ _⟩
 case round=>
  obtain⟨k,hk,rfl,hJs,hnx⟩:=hrel;have hcx:k<len->wr.cell? ⟨b,off+k,none⟩=some (.int .i64 (z k)):=fun h=>(hnx.cell (p:=⟨b,off+k,none⟩) hb).trans (hc k h);by_cases hlt:k<len
  ·obtain⟨fn,tmps,assign,body,hy,hR⟩:=hY _ (z k) wr hJs (by rw[upto_length];exact hlt);have hcx':=hcx hlt
   gi_wp2
   refine hR.mono ?_;rintro e W3 (⟨rfl,hJ3,hk3⟩|⟨rfl,hJx3⟩)
   ·gi_wp2
    go_roundw
    case rel=>exact⟨k+1,by omega,by simp,by rw[upto_succ];exact hJ3,hnx.trans hk3⟩
    case measure=>simp[intOf];omega
   ·gi_wp2
    refine bodyPost_ret (results_none rfl _ _ _) rfl ?_;exact⟨⟨_,rfl⟩,.inr ⟨_,⟨k+1,by omega,(upto_succ _ _).symm⟩,hJx3⟩⟩
  ·obtain rfl:k=len:=by omega
   gi_wp2
   go_end0
   exact⟨⟨_,rfl⟩,.inl ⟨_,rfl,hJs⟩⟩
set_option maxHeartbeats 1000000 in
theorem values1_nil_in(F:Fence)(n:Nat)(h7:F.fn 193)(hro:F.round=none)(l Bs:Nat)(a:Option Addr)(cap:Nat)(J:List Int->World->Prop)(W:World)(hBs:W.cell? ⟨Bs,0,none⟩=some (.slice a 0 cap))(h0:J [] W):
  CallsIn F n Tryz.prog 193 #[.func (.yield l) #[] #[],.pointer (some ⟨Bs,0,none⟩)] W fun e W'=>(∃v,e=.returned v)∧J [] W':=by
 refine callsIn_of_wp Tryz.func193 rfl h7 ?_ hro;simp only[Tryz.ntmps193,List.size_toArray,List.length_cons,List.length_nil,Nat.reduceAdd,Nat.reduceSub,Array.replicate_succ,Array.replicate_zero,List.push_toArray,List.append_toArray,List.nil_append,List.cons_append]
 gi_wp2
 gi_loopw [7] (fun i wr=>i=.int .i64 0∧J [] wr) (fun _ _=>0)
 case atStart=>exact⟨rfl,h0⟩
 case round=>
  obtain⟨rfl,hJs⟩:=hrel
  gi_wp2
  go_end0
  exact⟨⟨_,rfl⟩,hJs⟩
def Nums(n₀:Nat)(W:World)(sv:Value)(len:Nat)(z:Nat->Int):Prop:=∃a cap b off,sv=.slice a len cap∧(0<len->a=some ⟨b,off,none⟩∧b<n₀)∧∀j,j<len->W.cell? ⟨b,off+j,none⟩=some (.int .i64 (z j))
theorem Nums.below{n₀:Nat}{A B:World}(h:Below n₀ A B){sv:Value}{len:Nat}{z:Nat->Int}:Nums n₀ A sv len z->Nums n₀ B sv len z
 |⟨a,cap,b,off,e,hb,hc⟩=>⟨a,cap,b,off,e,hb,fun j hj=>(h.cell (p:=⟨b,off+j,none⟩) (hb (by omega)).2).trans (hc j hj)⟩
theorem values_stops(F:Fence)(n:Nat)(h7:F.fn 193)(hro:F.round=none)(hn:1<=n)(Bs n₀:Nat)(sv:Value)(len:Nat)(z:Nat->Int)(hreach:len*8<=140737488351232)(w:World)(hBs:Bs<w.heap.size)(hn₀:n₀<=w.heap.size)
  (hc:w.cell? ⟨Bs,0,none⟩=some sv) (hI:Nums n₀ w sv len z):
  SeqStopsK F n Tryz.prog 193 #[.pointer (some ⟨Bs,0,none⟩)] (fun x:Int=> #[Value.int .i64 x]) (Below n₀) (fun ys=>ys=upto z len) (fun pre=>pre<+:upto z len) len w:=fun l J Jx W hW _ _ hY h0=>by
 have hc':=(hW.cell (p:=⟨Bs,0,none⟩) hBs).trans hc;obtain⟨a,cap,b,off,rfl,hb,hcs⟩:=hI.below (hW.mono hn₀);by_cases hl:len=0
 ·subst hl;exact(values1_nil_in F n h7 hro l Bs a cap J W hc' h0).mono fun e W' ⟨he,hj⟩=>⟨he,.inl ⟨_,rfl,hj⟩⟩
 ·obtain⟨rfl,hb2⟩:=hb (by omega);refine(values1_in F n h7 hro hn l Bs n₀ b off len cap z hreach hb2 J Jx hY W hc' hcs h0).mono ?_;rintro e W' ⟨he,⟨ys,rfl,hj⟩|⟨pre,⟨k,hk,rfl⟩,hj⟩⟩
  ·exact⟨he,.inl ⟨_,rfl,hj⟩⟩
  ·exact⟨he,.inr ⟨_,MX z hk,hj⟩⟩
theorem jA:(Tryz.prog.info? 3).map (fun i=>(i.zero,i.size,i.bytes))=some (some (.int .i64 0),1,8):=by kernel_rfl
set_option maxHeartbeats 2000000 in
theorem Zf(F:Fence)(n:Nat)(h3:F.fn 202)(h5:F.fn 193)(hro:F.round=none)(hn:3<=n)(Bs:Nat)(sv:Value)(len:Nat)(z:Nat->Int)(hlen:len<=1000000)(w:World)(hBs:Bs<w.heap.size)(hcs:w.cell? ⟨Bs,0,none⟩=some sv)(hI:Nums w.heap.size w sv len z):
  CallsIn F n Tryz.prog 202 #[.slice none 0 0,.func (.func 193) #[] #[.pointer (some ⟨Bs,0,none⟩)]] w fun e W'=>∃v,e=.returned v∧W'.ownsRow w.heap.size 3 1 v len ((upto z len).map (Value.int .i64))∧(v=.slice none 0 0↔len=0)∧Below w.heap.size w W':=by
 have h1:1<=n:=by omega
 obtain⟨i0,hi,hz0,hz1,hz2⟩:=info_parts jA;refine callsIn_of_wp_marks Tryz.func202 rfl h3 ?_ hro;simp only[Tryz.ntmps202,List.size_toArray,List.length_cons,List.length_nil,Nat.reduceAdd,Nat.reduceSub,Array.replicate_succ,Array.replicate_zero,List.push_toArray,List.append_toArray,List.nil_append,List.cons_append]
 gi_wp2
 have bO:=Boxed.new w 32 (.slice none 0 0);have hB0:Below w.heap.size w (w.alloc (.cells #[.slice none 0 0] 32)):=(Below.refl _ w).alloc (Nat.le_refl _) _;refine wpIn_rangeFunc_ownG hro h1 (gf:=193) (lb:= #[.pointer (some ⟨Bs,0,none⟩)]) rfl h5 (enters_of Tryz.func193 (by kernel_rfl) rfl)
  (values_stops F (n-1) h5 hro (by omega) Bs w.heap.size sv len z (by omega) _ (by simp;omega) (by simp) ((hB0.cell (p:=⟨Bs,0,none⟩) hBs).trans hcs) (hI.below hB0)) belowK_t (belowK_b (by simp)) (Below.refl _ _) (fun _=>rfl)
  (fun pre W=>(∃v,Boxed W w.heap.size 32 v∧W.ownsRow w.heap.size 3 1 v pre.length (pre.map (Value.int .i64))∧(v=.slice none 0 0↔pre=[]))∧Below w.heap.size w W)
  (fun _ _ _=>False)
  (OwnFrom.and (Own.from (holdsRow_own w.heap.size w.heap.size 32 3 1 (fun pre=>pre.length) (fun pre=>pre.map (Value.int .i64)) (fun pre v=>v=.slice none 0 0↔pre=[])) _) (ownFrom_below (Nat.le_refl _) (by simp)))
  (fun _ _ _ _ _ hs _ _=>hs)
  ⟨⟨_,bO,World.ownsRow_nil _ _ _ _,by simp⟩,hB0⟩
  (fun x=>{tmps:= #[.slice none 0 0,.func (.func 193) #[] #[.pointer (some ⟨Bs,0,none⟩)],.pointer (some ⟨w.heap.size,0,none⟩),undef,.slice none 0 0,.int .i64 x,.func (.func 193) #[] #[.pointer (some ⟨Bs,0,none⟩)],.int .i64 x,undef,undef,undef,undef,undef],defers:=[]}) ?assign ?body ?done ?stop
 case assign=>
  intro l x W K hK
  gi_wp2
  exact hK
 case body=>
  rintro l pre x W ⟨⟨v,hv,hrow,hnil⟩,hB⟩ hlt;have hc:=hv.cell;have hpl:pre.length<len:=hlt
  gi_wp2_with (gi_at_builtin;refine wpListIn_append_own _ rfl _ _ 32 rfl w.heap.size 3 i0 (.int .i64 0) 1 8 Tryz.underlying32 hi hz0 hz1 hz2 rfl (by decide) _ _ _ rfl (hrow.alloc _) ⟨W.heap.size,0,none⟩ 1 1 [.int .i64 x] rfl rfl (cell_one_new _ _ _) (by simp[Value.oneCell']) (by unfold maxLen;omega) (by omega) (by have:=hB.size;simp;omega) ?_;intro v' w1 hown' hgrow _;obtain⟨g',cap',rfl⟩:=ownsRow_succ hown';obtain⟨hv1,hv2,hr2,hk2,hb2⟩:=hv.appended (by decide) hrow hB.size (Nat.le_refl _) hown' hgrow;have hc1:=hv1.cell;have hf1:=hv1.frozen)
  exact⟨hk2.from _,hb2,⟨_,hv2,by simpa using hr2,by simp⟩,hB.trans hb2⟩
 case done=>
  rintro D ys W hD rfl ⟨⟨v,hv,hrow,hnil⟩,hB⟩ hK;have hc:=hv.cell
  gi_wp2
  refine⟨by simp,.inl ⟨_,_,rfl,run_takeDeferred hK,?_⟩⟩;refine⟨_,results_tmp rfl _ _ _,v,rfl,?_,?_,hB.trans (belowK_b (w:=w) (Nat.le_refl _) W D _ _ (by simp at hD;omega) hK rfl rfl)⟩
  ·have:=ownsRow_putObj hrow (.deferred none) hK rfl;rw[upto_length]at this;exact this
  ·rw[hnil,<-List.length_eq_zero_iff,upto_length]
 case stop=>
  rintro D c pre W _ _ h _;exact h.elim
end Go.Proofs.YtnljjjghpgdmoaaGreatDoor
namespace Go.Dec
open Go.Lib
def YK(c:UInt8)(n:Int):Option Int:=if c.toNat<48∨57<c.toNat∨100000000000000000<n then none else some (10*n+((c.toNat:Int)-48))
def JA:List UInt8->Int->Option Int
 |[],n=>some n
 |c::r,n=>match YK c n with
  |some m=>JA r m
  |none=>none
theorem I5:∀(l m:List UInt8)(n:Int),JA (l++m) n=(JA l n).bind (JA m)
 |[],m,n=>rfl
 |c::r,m,n=>by
  simp only[List.cons_append,JA];cases YK c n with
  |none=>rfl
  |some x=>exact I5 r m x
theorem KT(c:UInt8)(n:Int):JA [c] n=YK c n:=by
 unfold JA;cases YK c n<;>rfl
theorem ZP{c:UInt8}{n m:Int}(h:YK c n=some m):48<=c.toNat∧c.toNat<=57∧n<=100000000000000000∧m=10*n+((c.toNat:Int)-48):=by
 unfold YK at h;split at h
 ·cases h
 ·rename_i hc;simp only[Option.some.injEq]at h;omega
theorem BP(k:Nat)(h:k<256):(UInt8.ofNat k).toNat=k:=by
 simp[UInt8.toNat_ofNat',Nat.mod_eq_of_lt h]
theorem toNat_ofNat(c:UInt8):UInt8.ofNat c.toNat=c:=by simp
theorem BO{u:Nat}(h:¬u<10):decDigits u=decDigits (u/10)++[UInt8.ofNat (48+u%10)]:=by rw[decDigits,dif_neg h]
theorem fM:∀(N u:Nat),u<=N->u<=1000000000000000009->JA (decDigits u) 0=some (u:Int):=by
 intro N
 induction N with
 |zero=>
  intro u h _;obtain rfl:u=0:=by omega
  rw[decDigits_one (by omega),KT];rfl
 |succ N ih=>
  intro u h hu;by_cases hs:u<10
  ·rw[decDigits_one hs,KT];unfold YK;rw[BP _ (by omega),if_neg (by omega)]
   congr 1
   omega
  ·rw[BO hs,I5,ih (u/10) (by omega) (by omega)];show JA [UInt8.ofNat (48+u%10)] ((u/10:Nat):Int)=_;rw[KT];unfold YK;rw[BP _ (by omega),if_neg (by omega)]
   congr 1
   omega
theorem G8(u:Nat):decDigits u≠[]:=by
 have:=decDigits_length u;have h2:=nDigits_pos u;intro h;rw[h]at this;simp at this;omega
theorem D9:∀(N u:Nat),u<=N->∀c∈decDigits u,48<=c.toNat∧c.toNat<=57:=by
 intro N
 induction N with
 |zero=>
  intro u h c hc;obtain rfl:u=0:=by omega
  rw[decDigits_one (by omega)]at hc;simp only[List.mem_singleton]at hc;subst hc
  decide
 |succ N ih=>
  intro u h c hc;by_cases hs:u<10
  ·rw[decDigits_one hs]at hc;simp only[List.mem_singleton]at hc;subst hc;rw[BP _ (by omega)];omega
  ·rw[BO hs,List.mem_append]at hc;rcases hc with hc|hc
   ·exact ih (u/10) (by omega) c hc
   ·simp only[List.mem_singleton]at hc;subst hc;rw[BP _ (by omega)];omega
theorem nV:∀(N u:Nat),u<=N->1<=u->∃c r,decDigits u=c::r∧c.toNat≠48:=by
 intro N
 induction N with
 |zero=>intro u h h1;omega
 |succ N ih=>
  intro u h h1;by_cases hs:u<10
  ·exact⟨_,[],decDigits_one hs,by rw[BP _ (by omega)];omega⟩
  ·obtain⟨c,r,h2,h3⟩:=ih (u/10) (by omega) (by omega);exact⟨c,r++[UInt8.ofNat (48+u%10)],by rw[BO hs,h2];rfl,h3⟩
theorem VS:∀(N:Nat)(l:List UInt8)(n:Int),l.length<=N->l≠[]->(l.length=1∨∃c r,l=c::r∧c.toNat≠48)->JA l 0=some n->0<=n∧decDigits n.toNat=l:=by
 intro N
 induction N with
 |zero=>intro l n hN h0;exact absurd (List.length_eq_zero_iff.1 (by omega)) h0
 |succ N ih=>
  intro l n hN h0 hz hv;rcases List.eq_nil_or_concat l with h|⟨l',c,h⟩
  ·exact absurd h h0
  ·rw[List.concat_eq_append]at h;subst h;rw[I5]at hv;cases hl:JA l' 0 with
   |none=>rw[hl]at hv;cases hv
   |some m=>
    rw[hl]at hv;have hv:JA [c] m=some n:=hv;rw[KT]at hv;obtain⟨c1,c2,c3,rfl⟩:=ZP hv;by_cases hl0:l'=[]
    ·subst hl0;cases hl;refine⟨by omega,?_⟩;rw[show(10*(0:Int)+((c.toNat:Int)-48)).toNat=c.toNat-48 by omega,decDigits_one (by omega),show 48+(c.toNat-48)=c.toNat by omega,toNat_ofNat];rfl
    ·have hlen:2<=(l'++[c]).length:=by
      have:l'.length≠0:=fun h=>hl0 (List.length_eq_zero_iff.1 h);simp;omega
     obtain⟨d,r,hd,hd0⟩:∃d r,l'=d::r∧d.toNat≠48:=by
      rcases hz with hz|⟨d,r,hz,hd⟩
      ·omega
      ·cases l' with
       |nil=>exact absurd rfl hl0
       |cons e r'=>
        simp only[List.cons_append,List.cons.injEq]at hz;exact⟨e,r',rfl,by rw[hz.1];exact hd⟩
     obtain⟨i1,i2⟩:=ih l' m (by simp at hN;omega) hl0 (.inr ⟨d,r,hd,hd0⟩) hl;have hm:1<=m.toNat:=by
      by_cases h:m.toNat=0
      ·rw[h,decDigits_one (by omega),hd]at i2;simp only[List.cons.injEq]at i2;exact absurd (by rw[<-i2.1];rfl) hd0
      ·omega
     refine⟨by omega,?_⟩;rw[show(10*m+((c.toNat:Int)-48)).toNat=10*m.toNat+(c.toNat-48) by omega,BO (by omega),show(10*m.toNat+(c.toNat-48))/10=m.toNat by omega,i2,
      show 48+(10*m.toNat+(c.toNat-48))%10=c.toNat by omega,toNat_ofNat]
theorem Du:∀(k u:Nat),u<10^(k+1)->nDigits u<=k+1
 |0,u,h=>by rw[nDigits_small (by simpa using h)];exact Nat.le_refl _
 |k+1,u,h=>by
  by_cases hs:u<10
  ·rw[nDigits_small hs];omega
  ·rw[nDigits_big hs];have:=Du k (u/10) (by rw[Nat.pow_succ]at h;omega);omega
def dgF(l:List UInt8):Bool:=decide (l.length=0)||decide (19<l.length)||(decide (1<l.length)&&decide ((l.headD 0).toNat=48))
def TZ(l:List UInt8):Int:=if dgF l=true then 0 else match JA l 0 with
 |some n=>n
 |none=>0
def dgB(l:List UInt8):Bool:=if dgF l=true then false else match JA l 0 with
 |some n=>decide (n<=1000000000000000000)
 |none=>false
theorem XT{l:List UInt8}(h:dgB l=true):0<=TZ l∧TZ l<=1000000000000000000∧decDigits (TZ l).toNat=l:=by
 unfold dgB at h;unfold TZ;split at h
 ·cases h
 ·rename_i hf;rw[if_neg hf];cases hv:JA l 0 with
  |none=>rw[hv]at h;cases h
  |some n=>
   rw[hv]at h;have h:n<=1000000000000000000:=by simpa using h
   unfold dgF at hf;simp only[Bool.or_eq_true,Bool.and_eq_true,decide_eq_true_eq,not_or,not_and]at hf;obtain⟨⟨f1,f2⟩,f3⟩:=hf;have hne:l≠[]:=fun he=>f1 (by rw[he];rfl);obtain⟨g1,g2⟩:=VS _ l n (Nat.le_refl _) hne (by
    by_cases hl:1<l.length
    ·right
     have:=f3 hl;cases l with
     |nil=>exact absurd rfl hne
     |cons c r=>exact⟨c,r,rfl,this⟩
    ·left;omega) hv
   exact⟨g1,h,g2⟩
theorem Zu(u:Nat)(hu:u<=1000000000000000000):dgB (decDigits u)=true∧TZ (decDigits u)=(u:Int):=by
 have hv:=fM u u (Nat.le_refl _) (by omega);have hl:(decDigits u).length<=19:=by
  rw[decDigits_length];exact Du 18 u (by omega)
 have hf:dgF (decDigits u)=false:=by
  unfold dgF;simp only[Bool.or_eq_false_iff,Bool.and_eq_false_iff,decide_eq_false_iff_not];refine⟨⟨fun h=>G8 u (List.length_eq_zero_iff.1 h),by omega⟩,?_⟩;by_cases h0:u=0
  ·left
   rw[h0,decDigits_one (by omega)]
   decide
  ·right
   obtain⟨c,r,h1,h2⟩:=nV u u (Nat.le_refl _) (by omega);rw[h1];exact h2
 unfold dgB TZ;rw[if_neg (by rw[hf];decide),if_neg (by rw[hf];decide),hv];exact⟨decide_eq_true (by omega),rfl⟩
theorem FY(M:Nat):∀(l m:List UInt8)(a:Nat),parseUintM M a (l++m)=match parseUintM M a l with
  |.ok b=>parseUintM M b m
  |Go.Lib.NumEnd.syntax=>Go.Lib.NumEnd.syntax
  |.range=>.range
 |[],m,a=>rfl
 |c::r,m,a=>by
  simp only[List.cons_append,parseUintM];split
  ·split
   ·rfl
   ·split
    ·rfl
    ·exact FY M r m _
  ·rfl
theorem I9(M:Nat)(hM:M<=18446744073709551615):∀(N u:Nat),u<=N->u<=M->parseUintM M 0 (decDigits u)=.ok u:=by
 intro N
 induction N with
 |zero=>
  intro u h _;obtain rfl:u=0:=by omega
  rw[decDigits_one (by omega)];simp[parseUintM]
 |succ N ih=>
  intro u h hu;by_cases hs:u<10
  ·rw[decDigits_one hs];simp only[parseUintM];rw[BP _ (by omega),if_pos (by omega),if_neg (by omega),if_neg (by omega)]
   congr 1
   omega
  ·rw[BO hs,FY,ih (u/10) (by omega) (by omega)];simp only[parseUintM];rw[BP _ (by omega),if_pos (by omega),if_neg (by omega),if_neg (by omega)]
   congr 1
   omega
theorem PP(n:Int)(h0: -9223372036854775808<=n)(h1:n<=9223372036854775807):parseIntB 64 (itoa n)=.ok n:=by
 have e1:(2:Nat)^64-1=18446744073709551615:=by decide
 have e2:(2:Nat)^(64-1)=9223372036854775808:=by decide
 by_cases hn:n<0
 ·obtain⟨u,rfl⟩:∃u:Nat,n= -(u:Int):=⟨n.natAbs,by omega⟩;rw[itoa_neg u (by omega)];have hU:parseUintB 64 (decDigits u)=.ok u:=by
   unfold parseUintB;rw[if_neg (G8 u),e1];exact I9 _ (Nat.le_refl _) u u (Nat.le_refl _) (by omega)
  unfold parseIntB;have h45:(45:UInt8).toNat=45:=rfl;simp only[h45];rw[if_pos (by simp),hU];simp only[e2];rw[if_neg (by simp),if_neg (by omega),if_pos trivial]
 ·obtain⟨u,rfl⟩:∃u:Nat,n=(u:Int):=⟨n.toNat,by omega⟩;rw[itoa_nonneg u];have hU:parseUintB 64 (decDigits u)=.ok u:=by
   unfold parseUintB;rw[if_neg (G8 u),e1];exact I9 _ (Nat.le_refl _) u u (Nat.le_refl _) (by omega)
  cases hd:decDigits u with
  |nil=>exact absurd hd (G8 u)
  |cons c r=>
   have hc:=D9 u u (Nat.le_refl _) c (by rw[hd];simp);unfold parseIntB;simp only;rw[if_neg (by omega),<-hd,hU];simp only[e2];rw[if_neg (by omega),if_neg (by omega),if_neg (by omega)]
end Go.Dec
namespace Go.Proofs.YtnljjjghpgdmoaaGreatDoor.Rt
open Go.Dec Go.Lib
def sp:List UInt8->List UInt8×Option (List UInt8)
 |[]=>([],none)
 |c::r=>if c=47 then([],some r)else(c::(sp r).1,(sp r).2)
theorem Gm:∀l:List UInt8,l=(sp l).1++(match(sp l).2 with|none=>[]|some r=>47::r)
 |[]=>rfl
 |c::r=>by
  unfold sp;by_cases h:c=47
  ·rw[if_pos h,h];rfl
  ·rw[if_neg h];have:=Gm r;show c::r=c::((sp r).1++_);rw[<-this]
theorem JK:∀(x y:List UInt8),(∀c∈x,c≠47)->sp (x++47::y)=(x,some y)
 |[],y,_=>by simp[sp]
 |c::x,y,h=>by
  show sp (c::(x++47::y))=_;unfold sp;rw[if_neg (h c (by simp)),JK x y fun d hd=>h d (by simp[hd])]
theorem Jf:∀(x:List UInt8),(∀c∈x,c≠47)->sp x=(x,none)
 |[],_=>rfl
 |c::x,h=>by
  unfold sp;rw[if_neg (h c (by simp)),Jf x fun d hd=>h d (by simp[hd])]
theorem GN:∀l:List UInt8,index l [47]=match(sp l).2 with|none=> -1|some _=>((sp l).1.length:Int)
 |[]=>rfl
 |c::r=>by
  unfold index sp;by_cases h:c=47
  ·subst h;rfl
  ·have hp:[(47:UInt8)].isPrefixOf (c::r)=false:=by
    simp only[List.isPrefixOf,Bool.and_eq_false_iff]
    left
    exact beq_eq_false_iff_ne.2 fun e=>h e.symm
   rw[if_neg (by rw[hp];decide),if_neg h,GN r];show(if _ then _ else _)=match(sp r).2 with|none=>(-1:Int)|some _=>((c::(sp r).1).length:Int)
   cases(sp r).2 with
   |none=>rfl
   |some y=>
    simp only[List.length_cons];rw[if_neg (by simp)];omega
theorem Fz:∀l:List UInt8,l.take (sp l).1.length=(sp l).1∧((sp l).2=none->(sp l).1.length=l.length)∧∀r,(sp l).2=some r->(sp l).1.length<l.length∧l.drop ((sp l).1.length+1)=r∧l[(sp l).1.length]? =some 47
 |[]=>⟨rfl,fun _=>rfl,fun r h=>by cases h⟩
 |c::r=>by
  unfold sp;by_cases h:c=47
  ·rw[if_pos h];exact⟨rfl,(fun h=>by cases h),fun y hy=>by cases hy;exact⟨by simp,by simp,by simp[h]⟩⟩
  ·rw[if_neg h];obtain⟨h1,h2,h3⟩:=Fz r;refine⟨by simp[h1],fun hn=>by simp[h2 hn],fun y hy=>?_⟩;obtain⟨a,b,d⟩:=h3 y hy;exact⟨by simp;omega,by simpa using b,by simpa using d⟩
theorem Vm(l:List UInt8):cut l [47]=((sp l).1,(sp l).2.getD [],(sp l).2.isSome):=by
 unfold cut;rw[GN];obtain⟨h1,h2,h3⟩:=Fz l;cases hs:(sp l).2 with
 |none=>
  simp only[hs];rw[if_neg (by omega)];have:=Gm l;rw[hs]at this;simp only[List.append_nil]at this;rw[<-this];rfl
 |some y=>
  obtain⟨a,b,_⟩:=h3 y hs;simp only[hs];rw[if_pos (by omega),Int.toNat_natCast,h1];simp only[List.length_cons,List.length_nil,Nat.zero_add,b];rfl
def txL(n d:Int):List UInt8:=if chkE n d=0 then(if d>1 then itoa n++47::itoa d else itoa n)else []
def YE(l:List UInt8):Bool:=decide (l≠[])&&decide ((l.headD 0).toNat=45)
def RP(l:List UInt8):List UInt8:=if YE l=true then l.tail else l
def pK(l:List UInt8):Int:=match(sp (RP l)).2 with|none=>1|some b=>TZ b
def rpI(l:List UInt8):Bool:=match(sp (RP l)).2 with|none=>true|some b=>dgB b&&decide (TZ b>1)
def rpV(l:List UInt8):Int:=if YE l=true then-TZ (sp (RP l)).1 else TZ (sp (RP l)).1
def rpE(l:List UInt8):Int:=if dgB (sp (RP l)).1=true∧rpI l=true∧¬(YE l=true∧TZ (sp (RP l)).1=0)∧chkE (rpV l) (pK l)=0 then 0 else 12
def rpN(l:List UInt8):Int:=if rpE l=0 then rpV l else 0
def rpD(l:List UInt8):Int:=if rpE l=0 then pK l else 0
theorem Gt{n d:Int}(h:goodR n d):chkE n d=0:=if_pos h
theorem Ku{c:UInt8}(h:48<=c.toNat∧c.toNat<=57):c≠47∧c.toNat≠45:=⟨fun e=>by subst e;revert h;decide,by omega⟩
theorem rp_sound{l:List UInt8}(h:rpE l=0):goodR (rpN l) (rpD l)∧txL (rpN l) (rpD l)=l:=by
 have e1:rpN l=rpV l:=if_pos h;have e2:rpD l=pK l:=if_pos h;unfold rpE at h;split at h
 ·rename_i hc;obtain⟨h1,h2,h3,h4⟩:=hc;rw[e1,e2];refine⟨JU h4,?_⟩;obtain⟨d1,d2,d3⟩:=XT h1;have hnum:itoa (rpV l)=(if YE l=true then [45]else [])++(sp (RP l)).1:=by
   unfold rpV;by_cases hg:YE l=true
   ·rw[if_pos hg,if_pos hg];obtain⟨u,hu⟩:∃u:Nat,TZ (sp (RP l)).1=(u:Int):=⟨_,(Int.toNat_of_nonneg d1).symm⟩;have h0:TZ (sp (RP l)).1≠0:=fun h0=>h3 ⟨hg,h0⟩;rw[hu]at d3 h0⊢;rw[itoa_neg u (by omega)];rw[Int.toNat_natCast]at d3;rw[d3];rfl
   ·rw[if_neg hg,if_neg hg];obtain⟨u,hu⟩:∃u:Nat,TZ (sp (RP l)).1=(u:Int):=⟨_,(Int.toNat_of_nonneg d1).symm⟩;rw[hu]at d3⊢;rw[itoa_nonneg];rw[Int.toNat_natCast]at d3;rw[d3];rfl
  have hl:l=(if YE l=true then [45]else [])++RP l:=by
   unfold RP;by_cases hg:YE l=true
   ·rw[if_pos hg,if_pos hg];unfold YE at hg;simp only[Bool.and_eq_true,decide_eq_true_eq]at hg;cases l with
    |nil=>exact absurd rfl hg.1
    |cons c r=>
     have:c=45:=by
      have h5:c.toNat=45:=hg.2;rw[<-toNat_ofNat c,h5];rfl
     rw[this];rfl
   ·rw[if_neg hg,if_neg hg];rfl
  unfold txL;rw[if_pos h4,hnum];have hsp:=Gm (RP l);cases hs:(sp (RP l)).2 with
  |none=>
   rw[hs]at hsp;have hm:pK l=1:=by unfold pK;rw[hs]
   rw[hm,if_neg (by omega)];simp only[List.append_nil]at hsp;rw[<-hsp];exact hl.symm
  |some b=>
   rw[hs]at hsp;have hm:pK l=TZ b:=by unfold pK;rw[hs]
   unfold rpI at h2;rw[hs]at h2;simp only[Bool.and_eq_true,decide_eq_true_eq]at h2;obtain⟨b1,b2,b3⟩:=XT h2.1;obtain⟨u,hu⟩:∃u:Nat,TZ b=(u:Int):=⟨_,(Int.toNat_of_nonneg b1).symm⟩;rw[hm,if_pos h2.2,hu,itoa_nonneg];rw[hu,Int.toNat_natCast]at b3;rw[b3,List.append_assoc,<-hsp];exact hl.symm
 ·cases h
theorem Qk(n:Int):∀c∈itoa n,c≠47:=by
 intro c hc;unfold itoa at hc;split at hc
 ·rcases List.mem_cons.1 hc with rfl|hc
  ·decide
  ·exact(Ku (D9 _ _ (Nat.le_refl _) c hc)).1
 ·exact(Ku (D9 _ _ (Nat.le_refl _) c hc)).1
theorem ZO{n:Int}(hn: -1000000000000000000<=n∧n<=1000000000000000000)(rest:List UInt8)(hr:rest=[]∨∃r,rest=47::r):
  YE (itoa n++rest)=decide (n<0)∧RP (itoa n++rest)=decDigits n.natAbs++rest:=by
 unfold RP;by_cases h:n<0
 ·obtain⟨u,rfl⟩:∃u:Nat,n= -(u:Int):=⟨n.natAbs,by omega⟩;have hg:YE (itoa (-(u:Int))++rest)=true:=by
   rw[itoa_neg u (by omega)];rfl
  rw[hg,decide_eq_true h,if_pos rfl,itoa_neg u (by omega)];exact⟨rfl,by simp⟩
 ·obtain⟨u,rfl⟩:∃u:Nat,n=(u:Int):=⟨n.toNat,by omega⟩;have hg:YE (itoa (u:Int)++rest)=false:=by
   rw[itoa_nonneg u];cases hd:decDigits u with
   |nil=>exact absurd hd (G8 u)
   |cons c r=>
    have:=(Ku (D9 u u (Nat.le_refl _) c (by rw[hd];simp))).2;unfold YE;simp[this]
  rw[hg,decide_eq_false h,if_neg (by decide),itoa_nonneg u];exact⟨rfl,by simp⟩
theorem rp_complete{n d:Int}(h:goodR n d):rpE (txL n d)=0∧rpN (txL n d)=n∧rpD (txL n d)=d:=by
 obtain⟨g1,g2,g3⟩:=id h;obtain⟨k1,k2⟩:=Zu n.natAbs (by omega);have hdig:∀c∈decDigits n.natAbs,c≠47:=fun c hc=>(Ku (D9 _ _ (Nat.le_refl _) c hc)).1;have key:∀l,l=txL n d->YE l=decide (n<0)->(sp (RP l)).1=decDigits n.natAbs->pK l=d->rpI l=true->rpE l=0∧rpN l=n∧rpD l=d:=by
  intro l _ e1 e2 e3 e4;have hv:rpV l=n:=by
   unfold rpV;rw[e1,e2,k2];by_cases hn:n<0
   ·rw[decide_eq_true hn,if_pos rfl];omega
   ·rw[decide_eq_false hn,if_neg (by decide)];omega
  have hE:rpE l=0:=by
   unfold rpE;rw[if_pos];rw[e2,e1,hv,e3];exact⟨k1,e4,fun⟨h1,h2⟩=>by
    have h1:=of_decide_eq_true h1;rw[k2]at h2;omega,Gt h⟩
  exact⟨hE,(if_pos hE).trans hv,(if_pos hE).trans e3⟩
 have ht:txL n d=(if d>1 then itoa n++47::itoa d else itoa n):=if_pos (Gt h);by_cases hd:d>1
 ·rw[if_pos hd]at ht;obtain⟨r1,r2⟩:=ZO g2 (47::itoa d) (.inr ⟨_,rfl⟩);rw[<-ht]at r1 r2;have hs:sp (RP (txL n d))=(decDigits n.natAbs,some (itoa d)):=by rw[r2];exact JK _ _ hdig
  obtain⟨u,rfl⟩:∃u:Nat,d=(u:Int):=⟨d.toNat,by omega⟩;obtain⟨m1,m2⟩:=Zu u (by omega);rw[itoa_nonneg]at hs;refine key _ rfl r1 (by rw[hs]) ?_ ?_
  ·unfold pK;rw[hs];exact m2
  ·unfold rpI;rw[hs];show(dgB (decDigits u)&&decide (TZ (decDigits u)>1))=true;rw[m1,m2,decide_eq_true hd];rfl
 ·rw[if_neg hd]at ht;obtain⟨r1,r2⟩:=ZO g2 [] (.inl rfl);rw[List.append_nil,<-ht]at r1;rw[List.append_nil,List.append_nil,<-ht]at r2;have hs:sp (RP (txL n d))=(decDigits n.natAbs,none):=by rw[r2];exact Jf _ hdig
  refine key _ rfl r1 (by rw[hs]) ?_ ?_
  ·unfold pK;rw[hs];show(1:Int)=d;omega
  ·unfold rpI;rw[hs]
def Wn(l:List UInt8):Int:=if(sp l).2.getD []=[]then 1 else PR ((sp l).2.getD [])
def Y5(l:List UInt8):Int:=if Vq (sp l).1=false∧((sp l).2.getD []=[]∨Vq ((sp l).2.getD [])=false)∧chkE (PR (sp l).1) (Wn l)=0∧txL (PR (sp l).1) (Wn l)=l then 0 else 12
theorem Xr{n:Int}(hn: -1000000000000000000<=n∧n<=1000000000000000000):Vq (itoa n)=false∧PR (itoa n)=n:=by
 have h:=PP n (by omega) (by omega);unfold Vq PR;rw[h];exact⟨rfl,rfl⟩
theorem qW(n:Int):itoa n≠[]:=by
 unfold itoa;split
 ·simp
 ·exact G8 _
theorem Uz{n d:Int}(h:goodR n d):Y5 (txL n d)=0∧PR (sp (txL n d)).1=n∧Wn (txL n d)=d:=by
 obtain⟨g1,g2,g3⟩:=id h;have ht:txL n d=(if d>1 then itoa n++47::itoa d else itoa n):=if_pos (Gt h);obtain⟨a1,a2⟩:=Xr g2;obtain⟨b1,b2⟩:=Xr (n:=d) (by omega);have hs:sp (txL n d)=(itoa n,if d>1 then some (itoa d)else none):=by
  rw[ht];by_cases hd:d>1
  ·rw[if_pos hd,if_pos hd];exact JK _ _ (Qk n)
  ·rw[if_neg hd,if_neg hd];exact Jf _ (Qk n)
 have hD:Wn (txL n d)=d:=by
  unfold Wn;rw[hs];by_cases hd:d>1
  ·rw[if_pos hd,if_neg (show¬(some (itoa d)).getD []=[]from qW d)];exact b2
  ·rw[if_neg hd,if_pos (show(none:Option (List UInt8)).getD []=[]from rfl)];omega
 have hN:PR (sp (txL n d)).1=n:=by rw[hs];exact a2
 refine⟨?_,hN,hD⟩;unfold Y5;rw[if_pos];rw[hD,hN];refine⟨by rw[hs];exact a1,?_,Gt h,rfl⟩;rw[hs];by_cases hd:d>1
 ·rw[if_pos hd];exact .inr b1
 ·rw[if_neg hd];exact .inl rfl
theorem aQ(l:List UInt8):rpE l=0∨rpE l=12:=by
 unfold rpE;split
 ·exact .inl rfl
 ·exact .inr rfl
theorem Ajm(l:List UInt8):Y5 l=rpE l∧(Y5 l=0->PR (sp l).1=rpN l∧Wn l=rpD l):=by
 by_cases hp:Y5 l=0
 ·have hc:Vq (sp l).1=false∧((sp l).2.getD []=[]∨Vq ((sp l).2.getD [])=false)∧chkE (PR (sp l).1) (Wn l)=0∧txL (PR (sp l).1) (Wn l)=l:=by
   unfold Y5 at hp;split at hp
   ·assumption
   ·cases hp
  obtain⟨r1,r2,r3⟩:=rp_complete (JU hc.2.2.1);rw[hc.2.2.2]at r1 r2 r3;exact⟨hp.trans r1.symm,fun _=>⟨r2.symm,r3.symm⟩⟩
 ·refine⟨?_,fun h=>absurd h hp⟩;rcases aQ l with hr|hr
  ·obtain⟨g,ht⟩:=rp_sound hr;obtain⟨p1,_,_⟩:=Uz g;rw[ht]at p1;exact absurd p1 hp
  ·rw[hr];unfold Y5 at hp⊢;split
   ·rename_i h;rw[if_pos h]at hp;exact absurd rfl hp
   ·rfl
open Go.Ev Go.RowKit
set_option maxRecDepth 100000
theorem Dt(l:List UInt8):Ae (txt l)=l:=rfl
theorem BV(l:List UInt8):(txt l).size=l.length:=by
 show(l.toArray).size=_;simp
theorem Ji(a b:List UInt8):txt a++txt b=txt (a++b):=ByteArray.mk_append_mk a b
theorem BL(s:ByteArray):s.size=(Ae s).length:=by
 show s.data.size=s.data.toList.length;simp
theorem tX(s:ByteArray)(i:Nat):s.data.getD i 0=(Ae s).getD i 0:=by
 show _=s.data.toList.getD i 0;rw[Array.getD_eq_getD_getElem?,List.getD_eq_getElem?_getD,Array.getElem?_toList]
theorem DC(s:ByteArray):s.toList=Ae s:=ByteArray.toList_eq s
def UG(n:Int):ByteArray:=Ux ((Row.zeros 1).setI 0 0 (IntKind.u8.wrap (IntKind.i64.wrap (48+n.tmod 10)))) 0 1
def SD(n:Int)(s:ByteArray):St:=⟨[i64 n]++us 2++[.string s]++us 13,[[]],[]⟩
def SDx(s:ByteArray):St:=⟨us 2++[.string s]++us 14,[[]],[]⟩
def GD:List It->(X->St->OD)->OD
 |[.i n,.s s],k=>br (decide (0<=n∧n<9223372036854775808∧s.size<=900)) (k .ret (SDx (txt (decDigits n.toNat)++s))) none
 |_,_=>none
def lD:LoopC where
 f:=145
 id:=2
 lv:=[0,3]
 lx:=[2]
 p:={τ:=[.v (.int .i64)]++pu 2++[.v .str]++pu 13,saved:=[[]],mem:=[]}
 G:=GD
def SG(s:ByteArray)(n i:Int):St:=⟨[.string s]++us 3++[i64 n,i64 i]++us 49,[[]],[]⟩
def SGx(n:Int):St:=⟨us 4++[i64 n]++us 50,[[]],[]⟩
def wS(n:Int):St:=⟨us 2++[i64 0,.bool false,i64 n]++us 50,[[]],[]⟩
def BF:List UInt8->Int->Int×Bool
 |[],n=>(n,true)
 |c::r,n=>match YK c n with
  |some m=>BF r m
  |none=>(n,false)
def GG:List It->(X->St->OD)->OD
 |[.s s],k=>br (decide (s.size<=1000)) (br (BF (Ae s) 0).2 (k (.exit 0) (SGx (BF (Ae s) 0).1)) (k .ret (wS (BF (Ae s) 0).1))) none
 |_,_=>none
def lG:LoopC where
 f:=156
 id:=5
 lv:=[0,4,5]
 lx:=[2,3,4]
 p:={τ:=[.v .str]++pu 3++[.v (.c (i64 0)),.v (.c (i64 0))]++pu 49,saved:=[[]],mem:=[]}
 G:=GG
noncomputable def CD:Cx:=AU Tryz.prog fns [] [lD,lG]
theorem Ag7(p:Nat)(R:St->OD)(K:X->St->OD)(n:Int)(s:ByteArray):Au CD 145 true (inl CD (p+4)) (Bc CD.P 145 2) (SD n s) (BI [0,3] (some [2]) R K)=br (((((UG n).size+s.size:Nat)):Int)>IntKind.i64.max) none (br (IntKind.i64.wrap (n.tdiv 10)==0) (K .ret (SDx (UG n++s))) (R (SD (IntKind.i64.wrap (n.tdiv 10)) (UG n++s)))):=by kernel_rfl
theorem sG(u:Nat)(h:u<9223372036854775808):UG (u:Int)=txt [UInt8.ofNat (48+u%10)]:=by
 have e1:((u:Int)).tmod 10=((u%10:Nat):Int):=by rw[Int.tmod_eq_emod_of_nonneg (by omega)];omega
 have e2:IntKind.u8.wrap (IntKind.i64.wrap (48+((u%10:Nat):Int)))=((48+u%10:Nat):Int):=by
  rw[EQ (by omega) (by omega)];exact Le (by simp[Lit.wf,IntKind.min,IntKind.max,IntKind.signed,IntKind.bits];omega)
 unfold UG;rw[e1,e2];show txt [UInt8.ofNat (((48+u%10:Nat):Int)).toNat]=_;rw[A9]
theorem bH{f:St->(X->St->OD)->OD}(hr:∀n s R K,f (SD n s) (BI [0,3] (some [2]) R K)=br (decide (((((UG n).size+s.size:Nat)):Int)>IntKind.i64.max)) none (br (IntKind.i64.wrap (n.tdiv 10)==0) (K .ret (SDx (UG n++s))) (R (SD (IntKind.i64.wrap (n.tdiv 10)) (UG n++s)))))(K:X->St->OD):
  ∀(N u:Nat)(s:ByteArray),nDigits u<=N->u<9223372036854775808->s.size+N<=1000->∀F,N<=F->rounds [0,3] (some [2]) f F (SD u s) K=K .ret (SDx (txt (decDigits u)++s))
 |0,u,s,h,_,_,F,_=>by have:=nDigits_pos u;omega
 |N+1,u,s,h,h1,h2,F,hF=>by
  obtain⟨F,rfl⟩:∃F',F=F'+1:=⟨F-1,by omega⟩;have hsz:(txt [UInt8.ofNat (48+u%10)]).size=1:=rfl;have e1:((u:Int)).tdiv 10=((u/10:Nat):Int):=by rw[Int.tdiv_eq_ediv_of_nonneg (by omega)];omega
  rw[Df,hr,sG u h1,hsz,AB (show¬(((1+s.size:Nat):Int)>IntKind.i64.max) by
   have:IntKind.i64.max=9223372036854775807:=by decide
   omega),Ac,e1,EQ (by omega) (by omega)]
  by_cases hs:u<10
  ·rw[show(((u/10:Nat):Int)==0)=true by simp;omega,Aa,decDigits_one hs,show 48+u%10=48+u by omega]
  ·rw[show(((u/10:Nat):Int)==0)=false by simp;omega,Ac];rw[nDigits_big hs]at h;rw[bH hr K N (u/10) (txt [UInt8.ofNat (48+u%10)]++s) (by omega) (by omega) (by rw[ByteArray.size_append,hsz];omega) F (by omega),BO hs,<-Ji,ByteArray.append_assoc]
theorem Ahl:Ai CD lD:=⟨by kernel_rfl,fun q its k rr h=>by
 show rounds [0,3] (some [2]) (Au CD 145 true (inl CD (q+4)) (Bc CD.P 145 2)) 18446744073709551616 (bst lD.p its) k=some rr;change GD its k=some rr at h;unfold GD at h;split at h
 ·rename_i n s;rcases CO h with⟨h1,h2⟩|⟨_,h2⟩
  ·obtain⟨k1,k2,k3⟩:=AD h1;obtain⟨u,rfl⟩:=Int.eq_ofNat_of_zero_le k1;rw[<-h2,A9];exact bH (fun n s R K=>Ag7 q R K n s) k 19 u s (Du 18 u (by omega)) (by omega) (by omega) _ (by omega)
  ·cases h2
 ·cases h⟩
theorem Adz(p:Nat)(R:St->OD)(K:X->St->OD)(n i:Int)(s:ByteArray):Au CD 156 true (inl CD (p+4)) (Bc CD.P 156 5) (SG s n i) (BI [0,4,5] (some [2,3,4]) R K)=br (i<(s.size:Int)) (br (0<=i&&i<(s.size:Int)) (br (((s.data.getD i.toNat 0).toNat:Int)<48) (K .ret (wS n)) (br (0<=i&&i<(s.size:Int)) (br (((s.data.getD i.toNat 0).toNat:Int)>57) (K .ret (wS n)) (br (n>100000000000000000) (K .ret (wS n)) (br (0<=i&&i<(s.size:Int)) (R (SG s (IntKind.i64.wrap (IntKind.i64.wrap (10*n)+IntKind.i64.wrap (IntKind.u8.wrap (((s.data.getD i.toNat 0).toNat:Int)-48)))) (IntKind.i64.wrap (i+1)))) none))) none)) none) (K (.exit 0) (SGx n)):=by kernel_rfl
theorem kK{f:St->(X->St->OD)->OD}{s:ByteArray}(hs:s.size<=1000)(hr:∀n i R K,f (SG s n i) (BI [0,4,5] (some [2,3,4]) R K)=
  br (decide (i<(s.size:Int))) (br (decide (0<=i)&&decide (i<(s.size:Int))) (br (decide (((s.data.getD i.toNat 0).toNat:Int)<48)) (K .ret (wS n)) (br (decide (0<=i)&&decide (i<(s.size:Int))) (br (decide (((s.data.getD i.toNat 0).toNat:Int)>57)) (K .ret (wS n)) (br (decide (n>100000000000000000)) (K .ret (wS n))
   (br (decide (0<=i)&&decide (i<(s.size:Int))) (R (SG s (IntKind.i64.wrap (IntKind.i64.wrap (10*n)+IntKind.i64.wrap (IntKind.u8.wrap (((s.data.getD i.toNat 0).toNat:Int)-48)))) (IntKind.i64.wrap (i+1)))) none))) none)) none) (K (.exit 0) (SGx n))) (K:X->St->OD):
  ∀(m i:Nat)(n:Int),i+m=s.size->0<=n->n<=1000000000000000009->∀F,m<F->rounds [0,4,5] (some [2,3,4]) f F (SG s n i) K=br (BF ((Ae s).drop i) n).2 (K (.exit 0) (SGx (BF ((Ae s).drop i) n).1)) (K .ret (wS (BF ((Ae s).drop i) n).1))
 |0,i,n,hi,_,_,F,hF=>by
  obtain⟨F,rfl⟩:∃F',F=F'+1:=⟨F-1,by omega⟩;rw[Df,hr,AB (show¬(i:Int)<(s.size:Int) by omega),Ac,List.drop_eq_nil_of_le (by rw[<-BL];omega)];rfl
 |m+1,i,n,hi,h0,h1,F,hF=>by
  obtain⟨F,rfl⟩:∃F',F=F'+1:=⟨F-1,by omega⟩;have hlt:i<(Ae s).length:=by rw[<-BL];omega
  have hd:(Ae s).drop i=(Ae s)[i]::(Ae s).drop (i+1):=List.drop_eq_getElem_cons hlt;have hg:s.data.getD i 0=(Ae s)[i]:=by rw[tX,List.getD_eq_getElem?_getD,AK hlt];rfl
  have hin:(decide (0<=(i:Int))&&decide ((i:Int)<(s.size:Int)))=true:=by simp only[A2,A3];omega
  rw[Df,hr,hin,A4 (show(i:Int)<(s.size:Int) by omega),Aa,Aa,Aa,Aa,A9,hg,hd];generalize(Ae s)[i]=c;have hc:c.toNat<256:=c.toNat_lt;unfold BF;by_cases c1:c.toNat<48
  ·rw[A4 (show((c.toNat:Int)<48) by omega),Aa,show YK c n=none from AM (.inl c1)];rfl
  ·rw[AB (show¬((c.toNat:Int)<48) by omega),Ac];by_cases c2:57<c.toNat
   ·rw[A4 (show((c.toNat:Int)>57) by omega),Aa,show YK c n=none from AM (.inr (.inl c2))];rfl
   ·rw[AB (show¬((c.toNat:Int)>57) by omega),Ac];by_cases c3:100000000000000000<n
    ·rw[A4 (show n>100000000000000000 from c3),Aa,show YK c n=none from AM (.inr (.inr c3))];rfl
    ·rw[AB (show¬n>100000000000000000 from c3),Ac,show YK c n=some (10*n+((c.toNat:Int)-48))from AL (by omega),
      show IntKind.u8.wrap ((c.toNat:Int)-48)=(c.toNat:Int)-48 from Le (by simp[Lit.wf,IntKind.min,IntKind.max,IntKind.signed,IntKind.bits];omega),
      EQ (n:=(c.toNat:Int)-48) (by omega) (by omega),EQ (n:=10*n) (by omega) (by omega),EQ (n:=10*n+((c.toNat:Int)-48)) (by omega) (by omega),EQ (n:=(i:Int)+1) (by omega) (by omega),show(i:Int)+1=((i+1:Nat):Int) by omega]
     exact kK hs hr K m (i+1) (10*n+((c.toNat:Int)-48)) (by omega) (by omega) (by omega) F (by omega)
theorem Ajn:Ai CD lG:=⟨by kernel_rfl,fun q its k rr h=>by
 show rounds [0,4,5] (some [2,3,4]) (Au CD 156 true (inl CD (q+4)) (Bc CD.P 156 5)) 18446744073709551616 (bst lG.p its) k=some rr;change GG its k=some rr at h;unfold GG at h;split at h
 ·rename_i s;rcases CO h with⟨h1,h2⟩|⟨_,h2⟩
  ·have h1:=AD h1;rw[<-h2];exact kK h1 (fun n i R K=>Adz q R K n i s) k s.size 0 0 (by omega) (by omega) (by omega) _ (by omega)
  ·cases h2
 ·cases h⟩
theorem Ahc:Bi CD:=Aq enter mixed (fun p h=>by cases h) (fun l h=>by
 simp only[A8,A7,or_false]at h;rcases h with rfl|rfl
 ·exact Ahl
 ·exact Ajn)
theorem Akd(n:Int):BZ CD 6 145 [.v (i64 n)]=br (decide (0<=n∧n<9223372036854775808∧{data:= #[]:ByteArray}.size<=900)) (some [.v (.string (txt (decDigits n.toNat)++{data:={toList:=[]:Array UInt8}:ByteArray}))]) (none):=by kernel_rfl
def Ahb:FD
 |[.v (.int .i64 n)]=>some (decide (0<=n)&&decide (n<9223372036854775808),[.v (str (decDigits n.toNat))])
 |_=>none
theorem den_dec:Den Tryz.prog 145 Ahb:=Ag Ahc fun ds rs h=>by
 unfold Ahb at h;split at h
 ·rename_i n;simp only[A5,A6,A2,A3]at h;obtain⟨⟨h0,h1⟩,rfl⟩:=h;refine(Akd n).trans ?_;rw[A4 (show 0<=n∧n<9223372036854775808∧({data:= #[]:ByteArray}).size<=900 from⟨h0,h1,by decide⟩),Aa];show some [D.v (.string (txt (decDigits n.toNat)++txt []))]=_;rw[Ji,List.append_nil];rfl
 ·cases h
def Fck(ce:Int->Int->Int):FD
 |[.agg [.v (.int .i64 n),.v (.int .i64 d)]]=>some (iR n&&iR d,[.v (i64 (ce n d))])
 |_=>none
def pqE:OD:=some [.agg [.v (i64 0),.v (i64 0)],.v (i64 12)]
def Fps:FD
 |[.v (.string s)]=>some (s.size<=4000000000,[.agg [.v (i64 (rpN (Ae s))),.v (i64 (rpD (Ae s)))],.v (i64 (rpE (Ae s)))])
 |_=>none
theorem Aiz(l:List UInt8):rpE l=12->rpN l=0∧rpD l=0:=fun h=>⟨AL (by omega),AL (by omega)⟩
def Fdc(dd:Int->ByteArray):FD
 |[.v (.int .i64 n)]=>some (decide (0<=n)&&decide (n<9223372036854775808),[.v (.string (dd n))])
 |_=>none
def Ffm(ft:Int->ByteArray):FD
 |[.v (.int .i64 n),.v (.int .i64 b)]=>some (iR n&&decide (b=10),[.v (.string (ft n))])
 |_=>none
noncomputable def CTg(dd ft:Int->ByteArray)(ce:Int->Int->Int):Cx:=AU Tryz.prog fns [(145,Fdc dd),(96,Fck ce),(79,Fck ce),(143,Ffm ft)] []
theorem Ahr(dd ft:Int->ByteArray)(ce:Int->Int->Int)(n d:Int):BZ (CTg dd ft ce) 6 110 [.agg [.v (i64 n),.v (i64 d)]]=br (iR n&&iR d) (br (ce n d !=0) (some [.v (.string ({data:={toList:=[]:Array UInt8}:ByteArray})),.v (i64 (ce n d))]) (br (iR n&&10=10) (br (d>1) (br (iR d&&10=10) (br ((↑({data:= #[47]:ByteArray}.size+(ft d).size):Int)>IntKind.i64.max) none (br ((↑((ft n).size+({data:= #[47]:ByteArray}++ft d).size):Int)>IntKind.i64.max) none (some [.v (.string (ft n++({data:={toList:=[47]:Array UInt8}:ByteArray}++ft d))),.v (i64 0)]))) none) (some [.v (.string (ft n)),.v (i64 0)])) none)) (none):=by kernel_rfl
theorem iR_same(n:Int):Go.Proofs.YtnljjjghpgdmoaaGreatDoor.iR n=iR n:=by rw[Bool.eq_iff_iff,Go.Proofs.YtnljjjghpgdmoaaGreatDoor.iR_iff,iR_iff];omega
theorem iH:DenW Tryz.prog Wd 143 (Ffm fun n=>txt (itoa n)):=den_fmt.less fun ds rs h=>by
 unfold Ffm at h;unfold Adq;split at h
 ·rename_i n b;show some (Go.Proofs.YtnljjjghpgdmoaaGreatDoor.iR n&&decide (b=10),_)=_;rw[iR_same];exact h
 ·cases h
theorem Air:P8 (CTg (fun n=>txt (decDigits n.toNat)) (fun n=>txt (itoa n)) chkE) Wd:=CP enter mixed (fun p h=>by
 simp only[A8,A7,or_false]at h;rcases h with rfl|rfl|rfl|rfl
 ·exact den_dec.at _
 ·exact den_chkr.at _
 ·exact den_chk.at _
 ·exact iH) (fun l h=>by cases h)
def Ftx:FD
 |[.agg [.v (.int .i64 n),.v (.int .i64 d)]]=>some (iR n&&iR d,[.v (str (txL n d)),.v (i64 (chkE n d))])
 |_=>none
theorem max_i64:IntKind.i64.max=9223372036854775807:=by decide
theorem ES{n:Int}(h:iR n=true):(itoa n).length<=21:=by
 obtain⟨h0,h1⟩:=iR_iff.1 h;exact itoa_length_le n h0 (by omega)
theorem den_text:DenW Tryz.prog Wd 110 Ftx:=DR Air fun ds rs h=>by
 unfold Ftx at h;split at h
 ·rename_i n d;simp only[A5,A6]at h;obtain⟨h0,rfl⟩:=h;refine(Ahr (fun n=>txt (decDigits n.toNat)) (fun n=>txt (itoa n)) chkE n d).trans ?_;have hr:=h0;simp only[A2]at hr;rw[h0,Aa];unfold str txL;by_cases hc:chkE n d=0
  ·rw[show(chkE n d !=0)=false by simpa using hc,Ac,hr.1,show(true&&decide (10=10))=true from rfl,Aa,AM hc,hr.2,hc,show(true&&decide (10=10))=true from rfl,Aa];have l1:=ES hr.1;have l2:=ES hr.2;by_cases hd:d>1
   ·rw[A4 hd,Aa,AM hd];show br (decide ((((txt [47]).size+(txt (itoa d)).size:Nat):Int)>IntKind.i64.max)) none (br (decide ((((txt (itoa n)).size+(txt [47]++txt (itoa d)).size:Nat):Int)>IntKind.i64.max)) none (some [D.v (.string (txt (itoa n)++(txt [47]++txt (itoa d)))),.v (i64 0)]))=_;rw[Ji,Ji,BV,BV,BV,BV,max_i64,AB (by simp;omega),Ac,AB (by simp;omega),Ac];rfl
   ·rw[AB hd,Ac,AL hd]
  ·rw[show(chkE n d !=0)=true by simpa using hc,Aa,AL hc];rfl
 ·cases h
def Fct(c1 c2:ByteArray->ByteArray->ByteArray)(c3:ByteArray->ByteArray->Bool):FD
 |[.v (.string s),.v (.string p)]=>some (s.size<4294967281,[.v (.string (c1 s p)),.v (.string (c2 s p)),.v (.bool (c3 s p))])
 |_=>none
def Fpi(pn:ByteArray->Int)(pe:ByteArray->Bool):FD
 |[.v (.string s),.v (.int .i64 b),.v (.int .i64 z)]=>some (decide (b=10)&&decide (z=64)&&decide (s.size<=4294967296),[.v (i64 (pn s)),.err (pe s)])
 |_=>none
def Ftv(tn:Int->Int->ByteArray)(te:Int->Int->Int):FD
 |[.agg [.v (.int .i64 n),.v (.int .i64 d)]]=>some (iR n&&iR d,[.v (.string (tn n d)),.v (i64 (te n d))])
 |_=>none
noncomputable def CQg(c1 c2:ByteArray->ByteArray->ByteArray)(c3:ByteArray->ByteArray->Bool)(pn:ByteArray->Int)(pe:ByteArray->Bool)(tn:Int->Int->ByteArray)(te:Int->Int->Int):Cx:=AU Tryz.prog fns [(110,Ftv tn te),(182,Fpi pn pe),(27,Fct c1 c2 c3)] []
def ptF(tn:Int->Int->ByteArray)(te:Int->Int->Int)(s:ByteArray)(num den:Int):OD:=br (iR num&&iR den) (br (te num den !=0) pqE (br (!((tn num den).toList==s.toList)) pqE (some [.agg [.v (i64 num),.v (i64 den)],.v (i64 0)]))) none
def ptT(pn:ByteArray->Int)(pe:ByteArray->Bool)(tn:Int->Int->ByteArray)(te:Int->Int->Int)(s a b:ByteArray):OD:=br (decide (10=10)&&decide (64=64)&&decide (a.size<=4294967296)) (br (pe a) pqE (br (!(b.toList==(txt []).toList)) (br (decide (10=10)&&decide (64=64)&&decide (b.size<=4294967296)) (br (pe b) pqE (ptF tn te s (pn a) (pn b))) none) (ptF tn te s (pn a) 1))) none
theorem Aej(c1 c2:ByteArray->ByteArray->ByteArray)(c3:ByteArray->ByteArray->Bool)(pn:ByteArray->Int)(pe:ByteArray->Bool)(tn:Int->Int->ByteArray)(te:Int->Int->Int)(s:ByteArray):BZ (CQg c1 c2 c3 pn pe tn te) 6 153 [.v (.string s)]=br (s.size<4294967281) (ptT pn pe tn te s (c1 s (txt [47])) (c2 s (txt [47]))) none:=by kernel_rfl
theorem Ahv:P8 (CQg (fun s p=>txt (cut (Ae s) (Ae p)).1) (fun s p=>txt (cut (Ae s) (Ae p)).2.1) (fun s p=>(cut (Ae s) (Ae p)).2.2) (fun s=>PR (Ae s)) (fun s=>Vq (Ae s)) (fun n d=>txt (txL n d)) chkE) Wd:=CP enter mixed (fun p h=>by
 simp only[A8,A7,or_false]at h;rcases h with rfl|rfl|rfl
 ·exact den_text
 ·exact kF
 ·exact den_cut) (fun l h=>by cases h)
theorem TW{l:List UInt8}(h:Vq l=false):iR (PR l)=true:=by
 unfold Vq at h;unfold PR;rcases hp:parseIntB 64 l with v|_|_
 ·have:=parseIntB_bounds hp;have e2:(2:Nat)^(64-1)=9223372036854775808:=by decide
  rw[e2]at this;exact iR_iff.2 (by show-9223372036854775808<=v∧v<9223372036854775808;omega)
 ·rw[hp]at h;cases h
 ·rw[hp]at h;cases h
theorem bytes_eq(a b:ByteArray):(a.toList==b.toList)=decide (Ae a=Ae b):=by
 rw[DC,DC,Bool.eq_iff_iff];simp
theorem Aji(l:List UInt8):(sp l).1.length<=l.length∧((sp l).2.getD []).length<=l.length:=by
 obtain⟨t1,t2,t3⟩:=Fz l;have h:=congrArg List.length (Gm l);cases hq:(sp l).2 with
 |none=>rw[hq]at h;simp at h;simp;omega
 |some y=>rw[hq]at h;simp at h;simp;omega
theorem den_parp:DenW Tryz.prog Wd 153 Fps:=DR Ahv fun ds rs h=>by
 unfold Fps at h;split at h
 ·rename_i s;simp only[A5,A6,A3]at h;obtain⟨h0,rfl⟩:=h;refine(Aej _ _ _ _ _ _ _ s).trans ?_;have hc:cut (Ae s) (Ae (txt [47]))=((sp (Ae s)).1,(sp (Ae s)).2.getD [],(sp (Ae s)).2.isSome):=Vm (Ae s);rw[A4 (show s.size<4294967281 by omega),Aa,hc];obtain⟨l1,l2⟩:=Aji (Ae s);rw[<-BL]at l1 l2;obtain⟨p1,p2⟩:=Ajm (Ae s);show ptT (fun s=>PR (Ae s)) (fun s=>Vq (Ae s)) (fun n d=>txt (txL n d)) chkE s (txt (sp (Ae s)).1) (txt ((sp (Ae s)).2.getD []))=_;have hbad:Y5 (Ae s)≠0->pqE=some [.agg [.v (i64 (rpN (Ae s))),.v (i64 (rpD (Ae s)))],.v (i64 (rpE (Ae s)))]:=fun h=>by
   have hr:rpE (Ae s)=12:=(aQ _).resolve_left (by rw[<-p1];exact h);obtain⟨a,b⟩:=Aiz _ hr;rw[a,b,hr];rfl
  unfold ptT;dsimp only;rw[BV,BV,A4 (show(sp (Ae s)).1.length<=4294967296 by omega),show(decide (10=10)&&decide (64=64)&&true)=true from rfl,Aa,bytes_eq,Dt,Dt,Dt];cases e1:Vq (sp (Ae s)).1
  ·rw[Ac];have fin:∀den,den=Wn (Ae s)->((sp (Ae s)).2.getD []=[]∨Vq ((sp (Ae s)).2.getD [])=false)->iR den=true->ptF (fun n d=>txt (txL n d)) chkE s (PR (sp (Ae s)).1) den=some [.agg [.v (i64 (rpN (Ae s))),.v (i64 (rpD (Ae s)))],.v (i64 (rpE (Ae s)))]:=by
    intro den hden hor hir;unfold ptF;dsimp only;rw[TW e1,hir,show(true&&true)=true from rfl,Aa,bytes_eq,Dt,hden];by_cases c1:chkE (PR (sp (Ae s)).1) (Wn (Ae s))=0
    ·rw[show(chkE (PR (sp (Ae s)).1) (Wn (Ae s)) !=0)=false by simpa using c1,Ac];by_cases c2:txL (PR (sp (Ae s)).1) (Wn (Ae s))=Ae s
     ·have hp0:Y5 (Ae s)=0:=AM ⟨e1,hor,c1,c2⟩;rw[A4 c2,show(!true)=false from rfl,Ac,(p2 hp0).1,(p2 hp0).2,<-p1,hp0]
     ·rw[AB c2,show(!false)=true from rfl,Aa];exact hbad (by unfold Y5;rw[AL fun⟨_,_,_,h⟩=>c2 h];decide)
    ·rw[show(chkE (PR (sp (Ae s)).1) (Wn (Ae s)) !=0)=true by simpa using c1,Aa];exact hbad (by unfold Y5;rw[AL fun⟨_,_,h,_⟩=>c1 h];decide)
   by_cases hG:(sp (Ae s)).2.getD []=[]
   ·rw[A4 hG,show(!true)=false from rfl,Ac];exact fin 1 (by unfold Wn;rw[AM hG]) (.inl hG) (by decide)
   ·rw[AB hG,show(!false)=true from rfl,Aa,A4 (show((sp (Ae s)).2.getD []).length<=4294967296 by omega),show(decide (10=10)&&decide (64=64)&&true)=true from rfl,Aa];cases e2:Vq ((sp (Ae s)).2.getD [])
    ·rw[Ac];exact fin _ (by unfold Wn;rw[AL hG]) (.inr e2) (TW e2)
    ·rw[Aa];exact hbad (by unfold Y5;rw[AL fun⟨_,h,_⟩=>h.elim hG (fun h=>by rw[e2]at h;cases h)];decide)
  ·rw[Aa];exact hbad (by unfold Y5;rw[AL fun⟨h,_⟩=>by rw[e1]at h;cases h];decide)
 ·cases h
end Go.Proofs.YtnljjjghpgdmoaaGreatDoor.Rt
namespace Go.Proofs.YtnljjjghpgdmoaaGreatDoor
open Go.Ev
set_option maxRecDepth 100000
def Wx(r:Row)(i:Nat):Bool:=Rt.iR (r.I i 0)&&Rt.iR (r.I i 1)&&Rt.iR (r.I i 2)&&Rt.iR (r.I i 3)
def vM(a b c d:Int):Bool:=Rt.chk2 a b c d==0&&decide (Rt.cpC a b c d<0)
def Aco:FD
 |[.agg [.v (.int .i64 a),.v (.int .i64 b),.v (.int .i64 c),.v (.int .i64 d)]]=>some (Rt.iR a&&Rt.iR b&&Rt.iR c&&Rt.iR d,[.v (.bool (vM a b c d))])
 |_=>none
def Afm:FD
 |[.agg [.v (.int .i64 a),.v (.int .i64 b)],.agg [.v (.int .i64 c),.v (.int .i64 d)]]=>some (Rt.iR a&&Rt.iR b&&Rt.iR c&&Rt.iR d,[.v (i64 (Rt.cpC a b c d))])
 |_=>none
def Afs:FD
 |[.agg [.v (.int .i64 a),.v (.int .i64 b)],.agg [.v (.int .i64 c),.v (.int .i64 d)]]=>some (Rt.iR a&&Rt.iR b&&Rt.iR c&&Rt.iR d,[.v (.bool (decide (Rt.cpC a b c d<0)))])
 |_=>none
noncomputable def CCm:Cx:=AU Tryz.prog fns [(122,Rt.Fcmp)] []
theorem VD:Bi CCm:=Aq enter mixed (fun p h=>by
 simp only[A8,A7,or_false]at h;rcases h with rfl;exact Rt.den_cmpp) (fun l h=>by cases h)
theorem Akr(a b c d:Int):BZ CCm 6 159 [.agg [.v (i64 a),.v (i64 b),.v (i64 c),.v (i64 d)]]=br (Rt.iR a&&Rt.iR b&&Rt.iR c&&Rt.iR d) (br (Rt.chk2 a b c d==0) (some [.v (.bool (Rt.cpC a b c d<0))]) (some [.v (.bool false)])) (none):=by kernel_rfl
theorem Ak3(a b c d:Int):BZ CCm 6 121 [.agg [.v (i64 a),.v (i64 b)],.agg [.v (i64 c),.v (i64 d)]]=br (Rt.iR a&&Rt.iR b&&Rt.iR c&&Rt.iR d) (some [.v (i64 (Rt.cpC a b c d))]) (none):=by kernel_rfl
theorem Ak6(a b c d:Int):BZ CCm 6 77 [.agg [.v (i64 a),.v (i64 b)],.agg [.v (i64 c),.v (i64 d)]]=br (Rt.iR a&&Rt.iR b&&Rt.iR c&&Rt.iR d) (some [.v (.bool (Rt.cpC a b c d<0))]) (none):=by kernel_rfl
theorem rY:Den Tryz.prog 159 Aco:=Ag VD fun ds rs h=>by
 unfold Aco at h;split at h
 ·rename_i a b c d;simp only[A5,A6]at h;obtain⟨h0,rfl⟩:=h;refine(Akr a b c d).trans ?_;rw[h0,Aa];unfold vM;cases Rt.chk2 a b c d==0<;>rfl
 ·cases h
theorem qV:Den Tryz.prog 121 Afm:=Ag VD fun ds rs h=>by
 unfold Afm at h;split at h
 ·rename_i a b c d;simp only[A5,A6]at h;obtain⟨h0,rfl⟩:=h;refine(Ak3 a b c d).trans ?_;rw[h0,Aa]
 ·cases h
theorem uF:Den Tryz.prog 77 Afs:=Ag VD fun ds rs h=>by
 unfold Afs at h;split at h
 ·rename_i a b c d;simp only[A5,A6]at h;obtain⟨h0,rfl⟩:=h;refine(Ak6 a b c d).trans ?_;rw[h0,Aa]
 ·cases h
def yV:Ed:={τ:=pu 8++[.v (.sl 0),.v (.int .i64),.v (.int .i64)]++pu 7,saved:=[[]],mem:=[.row [.int .i64,.int .i64,.int .i64,.int .i64] false]}
structure A_lal where
 n:Nat
 len:Int
 j:Int
 r:Row
def fV(its:List It):Option A_lal:=match its with|[.n n,.i len,.i j,.r r]=>some ⟨n,len,j,r⟩|_=>none
def ZN(x:A_lal):Bool:=x.j=0∧x.len=x.n∧x.n<=1000000∧(∀i,i<x.n->Wx x.r i=true)
def c_lal_iff{x:A_lal}:=@BC _ ZN _ _ rfl x
def lal:ScanL A_lal:=⟨120,4,[8,9,10],[2],yV,fV,fun x j=>[.n x.n,.i (x.n:Int),.i (j:Int),.r x.r],fun x=>x.n,ZN,fun x j=> !vM (x.r.I j 0) (x.r.I j 1) (x.r.I j 2) (x.r.I j 3),fun x j K=>K .ret ⟨us 2++[i64 8]++us 15,[[]],[]⟩,fun x K=>K (.exit 0) ⟨us 18,[[]],[]⟩⟩
noncomputable def Cal:Cx:=AU Tryz.prog fns [(159,Aco)] [lal.C]
theorem Aah(R:St->OD)(K:X->St->OD)(q n:Nat)(len j:Int)(r:Row):Ar Cal 120 4 q (bst yV [.n n,.i len,.i j,.r r]) (BI [8,9,10] (some [2]) R K)=br (j<len) (br (0<=j&&j<(n:Int)) (br (Rt.iR (r.I (0+j.toNat) 0)&&Rt.iR (r.I (0+j.toNat) 1)&&Rt.iR (r.I (0+j.toNat) 2)&&Rt.iR (r.I (0+j.toNat) 3)) (br (!vM (r.I (0+j.toNat) 0) (r.I (0+j.toNat) 1) (r.I (0+j.toNat) 2) (r.I (0+j.toNat) 3)) (K .ret ⟨us 2++[i64 8]++us 15,[[]],[]⟩) (R ⟨us 8++[S_ 0 0 n,i64 len,i64 (IntKind.i64.wrap (j+1))]++us 7,[[]],[some (.row [.int .i64,.int .i64,.int .i64,.int .i64] false r)]⟩)) none) none) (K (.exit 0) ⟨us 18,[[]],[]⟩):=by kernel_rfl
theorem ual(r:Row):BZ Cal 6 120 [.slice [.int .i64,.int .i64,.int .i64,.int .i64] r]=br ((r.n:Int)>60) (some [.v (i64 4)]) (br (ZN (⟨r.n,(r.n:Int),0,r⟩:A_lal)) (br (Ap (fun j=> !vM (r.I j 0) (r.I j 1) (r.I j 2) (r.I j 3)) r.n 0) (some [.v (i64 8)]) (some [.v (i64 0)])) none):=by kernel_rfl
theorem Adp:Ai Cal lal.C:=lal.ok (by kernel_rfl)
 (fun its x h hc=>by
  replace h:fV its=some x:=h;unfold fV at h;split at h
  ·cases h;obtain⟨h1,h2,h3,h4⟩:=c_lal_iff.1 hc;dsimp only at h1 h2;subst h1 h2;rfl
  ·cases h)
 (fun x hc=>by have:=c_lal_iff.1 hc;show x.n<18446744073709551616;omega)
 (fun q ⟨n,len0,j0,r⟩ j hc hi R K=>by
  obtain⟨h1,h2,h3,h4⟩:=c_lal_iff.1 hc;dsimp only at*
  replace hi:j<n:=hi;refine(Aah R K q n ((n:Int)) ((j:Int)) r).trans ?_;have k1:=h4 j hi;unfold Wx at k1;rw[A9,AE j,gd j n hi,Fe j n hi,FH (by omega),k1];rfl)
 (fun q ⟨n,len0,j0,r⟩ hc R K=>by
  obtain⟨h1,h2,h3,h4⟩:=c_lal_iff.1 hc;dsimp only at*
  refine(Aah R K q n ((n:Int)) ((n:Int)) r).trans ?_;rw[F8 n];rfl)
theorem Aff:Bi Cal:=Aq enter mixed (fun p h=>by
 simp only[A8,A7,or_false]at h;rcases h with rfl;exact rY) (fun l h=>by
 simp only[A8,A7,or_false]at h;rcases h with rfl;exact Adp)
def Ny(r:Row):Int:=bif (r.n:Int)>60 then 4 else bif Ap (fun j=> !vM (r.I j 0) (r.I j 1) (r.I j 2) (r.I j 3)) r.n 0 then 8 else 0
def Adm:FD
 |[.slice [.int .i64,.int .i64,.int .i64,.int .i64] r]=>some (decide (r.n<=1000000∧∀i,i<r.n->Wx r i=true),[.v (i64 (Ny r))])
 |_=>none
theorem rD:Den Tryz.prog 120 Adm:=Ag Aff fun ds rs h=>by
 unfold Adm at h;split at h
 ·rename_i r;simp only[A5,A6,A3]at h;obtain⟨h0,rfl⟩:=h;refine(ual r).trans ?_;unfold Ny;rw[c_lal_iff.2 ⟨rfl,rfl,h0⟩,Aa];cases decide ((r.n:Int)>60)
  ·show br (Ap (fun j=> !vM (r.I j 0) (r.I j 1) (r.I j 2) (r.I j 3)) r.n 0) _ _=_;cases Ap (fun j=> !vM (r.I j 0) (r.I j 1) (r.I j 2) (r.I j 3)) r.n 0<;>rfl
  ·rfl
 ·cases h
def Aak:Ed:={τ:=[.v (.sl 0)]++pu 3++[.v (.int .i64)]++pu 24,saved:=[[]],mem:=[.row [.int .i64,.int .i64,.int .i64,.int .i64] false]}
structure A_lpc where
 n:Nat
 j:Int
 r:Row
def bY(its:List It):Option A_lpc:=match its with|[.n n,.i j,.r r]=>some ⟨n,j,r⟩|_=>none
def jY(x:A_lpc):Bool:=x.j=1∧x.n<=1000000∧(∀i,i<x.n->Wx x.r i=true)
def c_lpc_iff{x:A_lpc}:=@BC _ jY _ _ rfl x
def lpc:ScanL A_lpc:=⟨76,5,[0,4],[2],Aak,bY,fun x j=>[.n x.n,.i ((j+1:Nat):Int),.r x.r],fun x=>x.n-1,jY,fun x j=>decide (Rt.cpC (x.r.I j 2) (x.r.I j 3) (x.r.I (j+1) 0) (x.r.I (j+1) 1)>=0),fun x j K=>K .ret ⟨us 2++[i64 8]++us 26,[[]],[]⟩,fun x K=>K (.exit 0) ⟨us 29,[[]],[]⟩⟩
noncomputable def Cpc:Cx:=AU Tryz.prog fns [(120,Adm),(121,Afm)] [lpc.C]
theorem Aab(R:St->OD)(K:X->St->OD)(q n:Nat)(j:Int)(r:Row):Ar Cpc 76 5 q (bst Aak [.n n,.i j,.r r]) (BI [0,4] (some [2]) R K)=br (j<(n:Int)) (br (0<=IntKind.i64.wrap (j-1)&&IntKind.i64.wrap (j-1)<(n:Int)) (br (0<=j&&j<(n:Int)) (br (Rt.iR (r.I (0+(IntKind.i64.wrap (j-1)).toNat) 2)&&Rt.iR (r.I (0+(IntKind.i64.wrap (j-1)).toNat) 3)&&Rt.iR (r.I (0+j.toNat) 0)&&Rt.iR (r.I (0+j.toNat) 1)) (br (Rt.cpC (r.I (0+(IntKind.i64.wrap (j-1)).toNat) 2) (r.I (0+(IntKind.i64.wrap (j-1)).toNat) 3) (r.I (0+j.toNat) 0) (r.I (0+j.toNat) 1)>=0) (K .ret ⟨us 2++[i64 8]++us 26,[[]],[]⟩) (R ⟨[S_ 0 0 n]++us 3++[i64 (IntKind.i64.wrap (j+1))]++us 24,[[]],[some (.row [.int .i64,.int .i64,.int .i64,.int .i64] false r)]⟩)) none) none) none) (K (.exit 0) ⟨us 29,[[]],[]⟩):=by kernel_rfl
theorem upc(r:Row):BZ Cpc 6 76 [.slice [.int .i64,.int .i64,.int .i64,.int .i64] r]=br (decide ((w_ r 0 r.n).n<=1000000∧∀(i:Nat),i<(w_ r 0 r.n).n->Wx (w_ r 0 r.n) i=true)) (br (Ny (w_ r 0 r.n) !=0) (some [.v (i64 (Ny (w_ r 0 r.n)))]) (br (jY (⟨r.n,1,r⟩:A_lpc)) (br (Ap (fun j=>decide (Rt.cpC (r.I j 2) (r.I j 3) (r.I (j+1) 0) (r.I (j+1) 1)>=0)) (r.n-1) 0) (some [.v (i64 8)]) (some [.v (i64 0)])) none)) (none):=by kernel_rfl
theorem Ab9:Ai Cpc lpc.C:=lpc.ok (by kernel_rfl)
 (fun its x h hc=>by
  replace h:bY its=some x:=h;unfold bY at h;split at h
  ·cases h;obtain⟨h1,h2,h3⟩:=c_lpc_iff.1 hc;dsimp only at h1;subst h1;rfl
  ·cases h)
 (fun x hc=>by have:=c_lpc_iff.1 hc;show x.n-1<18446744073709551616;omega)
 (fun q ⟨n,j0,r⟩ j hc hi R K=>by
  obtain⟨h1,h2,h3⟩:=c_lpc_iff.1 hc;dsimp only at*
  replace hi:j<n-1:=hi;refine(Aab R K q n (((j+1:Nat):Int)) r).trans ?_;have k1:=h3 j (by omega);have k2:=h3 (j+1) (by omega);unfold Wx at k1 k2;simp only[A2]at k1 k2;have e1:IntKind.i64.wrap (((j+1:Nat):Int)-1)=(j:Int):=(wrap64 (by omega) (by omega)).trans (by omega);rw[e1,A9,A9,AE,AE,gd j n (by omega),gd (j+1) n (by omega),Fe (j+1) n (by omega),FH (by omega),k1.1.2,k1.2,k2.1.1.1,k2.1.1.2];rfl)
 (fun q ⟨n,j0,r⟩ hc R K=>by
  obtain⟨h1,h2,h3⟩:=c_lpc_iff.1 hc;dsimp only at*
  refine(Aab R K q n (((n-1+1:Nat):Int)) r).trans ?_;rw[AB (show¬((n-1+1:Nat):Int)<(n:Int) by omega)];rfl)
theorem Ad9:Bi Cpc:=Aq enter mixed (fun p h=>by
 simp only[A8,A7,or_false]at h;rcases h with rfl|rfl
 ·exact rD
 ·exact qV) (fun l h=>by
 simp only[A8,A7,or_false]at h;rcases h with rfl;exact Ab9)
theorem Ajf(r:Row)(n:Nat):(w_ r 0 n).I=r.I:=by funext i j;rw[Ea,AE]
theorem X4(r:Row)(n i:Nat):Wx (w_ r 0 n) i=Wx r i:=by unfold Wx;rw[Ajf]
theorem sW(r:Row):Ny (w_ r 0 r.n)=Ny r:=by unfold Ny;rw[Ajf,wn_]
def Ah1(r:Row)(j:Nat):Bool:=Rt.cpC (r.I j 2) (r.I j 3) (r.I (j+1) 0) (r.I (j+1) 1)>=0
def V7(r:Row):Int:=bif Ny r !=0 then Ny r else bif Ap (Ah1 r) (r.n-1) 0 then 8 else 0
def Acx:FD
 |[.slice [.int .i64,.int .i64,.int .i64,.int .i64] r]=>some (decide (r.n<=1000000∧∀i,i<r.n->Wx r i=true),[.v (i64 (V7 r))])
 |_=>none
theorem vS:Den Tryz.prog 76 Acx:=Ag Ad9 fun ds rs h=>by
 unfold Acx at h;split at h
 ·rename_i r;simp only[A5,A6,A3]at h;obtain⟨h0,rfl⟩:=h;refine(upc r).trans ?_;rw[sW,A4 (show(w_ r 0 r.n).n<=1000000∧∀i,i<(w_ r 0 r.n).n->Wx (w_ r 0 r.n) i=true by rw[wn_];exact⟨h0.1,fun i hi=>by rw[X4];exact h0.2 i hi⟩),Aa,c_lpc_iff.2 ⟨rfl,h0⟩,Aa];unfold V7;cases Ny r !=0
  ·show br (Ap (Ah1 r) (r.n-1) 0) _ _=_;cases Ap (Ah1 r) (r.n-1) 0<;>rfl
  ·rfl
 ·cases h
def zV:Ed:={τ:=[.v (.sl 0)]++pu 2++[.v (.int .i64),.v (.int .i64)]++pu 20,saved:=[[]],mem:=[.row [.int .i64] false]}
structure A_lmn where
 n:Nat
 m:Int
 j:Int
 r:Row
def dD(its:List It):Option A_lmn:=match its with|[.n n,.i m,.i j,.r r]=>some ⟨n,m,j,r⟩|_=>none
def cZ(x:A_lmn):Bool:=x.j=1∧x.n<=1000000
def c_lmn_iff{x:A_lmn}:=@BC _ cZ _ _ rfl x
def lmn:FoldL A_lmn (Int):=⟨157,5,[0,3,4],[2,3],zV,dD,fun x j a=>[.n x.n,.i a,.i ((j+1:Nat):Int),.r x.r],fun x=>x.n-1,cZ,fun x=>x.m,fun x j a=>if x.r.I (j+1) 0<a then x.r.I (j+1) 0 else a,fun x a K=>K (.exit 0) ⟨us 3++[i64 ((a))]++us 21,[[]],[]⟩⟩
def xX:Ed:={τ:=[.v (.sl 0)]++pu 2++[.v (.int .i64),.v (.int .i64)]++pu 20,saved:=[[]],mem:=[.row [.int .i64] false]}
structure A_lmx where
 n:Nat
 m:Int
 j:Int
 r:Row
def kC(its:List It):Option A_lmx:=match its with|[.n n,.i m,.i j,.r r]=>some ⟨n,m,j,r⟩|_=>none
def Zx(x:A_lmx):Bool:=x.j=1∧x.n<=1000000
def c_lmx_iff{x:A_lmx}:=@BC _ Zx _ _ rfl x
def lmx:FoldL A_lmx (Int):=⟨158,5,[0,3,4],[2,3],xX,kC,fun x j a=>[.n x.n,.i a,.i ((j+1:Nat):Int),.r x.r],fun x=>x.n-1,Zx,fun x=>x.m,fun x j a=>if x.r.I (j+1) 0>a then x.r.I (j+1) 0 else a,fun x a K=>K (.exit 0) ⟨us 3++[i64 ((a))]++us 21,[[]],[]⟩⟩
noncomputable def Cmn:Cx:=AU Tryz.prog fns [] [lmn.C,lmx.C]
theorem zU(R:St->OD)(K:X->St->OD)(q n:Nat)(m j:Int)(r:Row):Ar Cmn 157 5 q (bst zV [.n n,.i m,.i j,.r r]) (BI [0,3,4] (some [2,3]) R K)=br (j<(n:Int)) (br (0<=j&&j<(n:Int)) (R ⟨[S_ 0 0 n]++us 2++[i64 (if r.I (0+j.toNat) 0<m then r.I (0+j.toNat) 0 else m),i64 (IntKind.i64.wrap (j+1))]++us 20,[[]],[some (.row [.int .i64] false r)]⟩) none) (K (.exit 0) ⟨us 3++[i64 m]++us 21,[[]],[]⟩):=by kernel_rfl
theorem yZ(R:St->OD)(K:X->St->OD)(q n:Nat)(m j:Int)(r:Row):Ar Cmn 158 5 q (bst xX [.n n,.i m,.i j,.r r]) (BI [0,3,4] (some [2,3]) R K)=br (j<(n:Int)) (br (0<=j&&j<(n:Int)) (R ⟨[S_ 0 0 n]++us 2++[i64 (if r.I (0+j.toNat) 0>m then r.I (0+j.toNat) 0 else m),i64 (IntKind.i64.wrap (j+1))]++us 20,[[]],[some (.row [.int .i64] false r)]⟩) none) (K (.exit 0) ⟨us 3++[i64 m]++us 21,[[]],[]⟩):=by kernel_rfl
theorem umn(r:Row):BZ Cmn 6 157 [.slice FW r]=br ((r.n:Int)<1) none (br ((0:Int)<=0&&0<(r.n:Int)) (br (cZ (⟨r.n,r.I 0 0,1,r⟩:A_lmn)) (some [.v (i64 (AP (fun j a=>if r.I (j+1) 0<a then r.I (j+1) 0 else a) (r.n-1) 0 (r.I 0 0)))]) none) none):=by kernel_rfl
theorem umx(r:Row):BZ Cmn 6 158 [.slice FW r]=br ((r.n:Int)<1) none (br ((0:Int)<=0&&0<(r.n:Int)) (br (Zx (⟨r.n,r.I 0 0,1,r⟩:A_lmx)) (some [.v (i64 (AP (fun j a=>if r.I (j+1) 0>a then r.I (j+1) 0 else a) (r.n-1) 0 (r.I 0 0)))]) none) none):=by kernel_rfl
theorem Ad6:Ai Cmn lmn.C:=lmn.ok (fun x j a=>True) (by kernel_rfl)
 (fun its x h hc=>by
  replace h:dD its=some x:=h;unfold dD at h;split at h
  ·cases h;obtain⟨h1,h2⟩:=c_lmn_iff.1 hc;dsimp only at h1;subst h1;rfl
  ·cases h)
 (fun x hc=>by have:=c_lmn_iff.1 hc;show x.n-1<18446744073709551616;omega)
 (fun x hc=>by
  trivial)
 (fun x j a hc hi hI=>by
  trivial)
 (fun q ⟨n,m0,j0,r⟩ j a hc hi hI R K=>by
  obtain⟨h1,h2⟩:=c_lmn_iff.1 hc;dsimp only at*
  replace hi:j<n-1:=hi;refine(zU R K q n ((a)) (((j+1:Nat):Int)) r).trans ?_;rw[A9,AE,gd (j+1) n (by omega),Fe (j+1) n (by omega),FH (by omega)];rfl)
 (fun q ⟨n,m0,j0,r⟩ a hc hI R K=>by
  obtain⟨h1,h2⟩:=c_lmn_iff.1 hc;dsimp only at*
  refine(zU R K q n ((a)) (((n-1+1:Nat):Int)) r).trans ?_;rw[AB (show¬((n-1+1:Nat):Int)<(n:Int) by omega)];rfl)
theorem Abx:Ai Cmn lmx.C:=lmx.ok (fun x j a=>True) (by kernel_rfl)
 (fun its x h hc=>by
  replace h:kC its=some x:=h;unfold kC at h;split at h
  ·cases h;obtain⟨h1,h2⟩:=c_lmx_iff.1 hc;dsimp only at h1;subst h1;rfl
  ·cases h)
 (fun x hc=>by have:=c_lmx_iff.1 hc;show x.n-1<18446744073709551616;omega)
 (fun x hc=>by
  trivial)
 (fun x j a hc hi hI=>by
  trivial)
 (fun q ⟨n,m0,j0,r⟩ j a hc hi hI R K=>by
  obtain⟨h1,h2⟩:=c_lmx_iff.1 hc;dsimp only at*
  replace hi:j<n-1:=hi;refine(yZ R K q n ((a)) (((j+1:Nat):Int)) r).trans ?_;rw[A9,AE,gd (j+1) n (by omega),Fe (j+1) n (by omega),FH (by omega)];rfl)
 (fun q ⟨n,m0,j0,r⟩ a hc hI R K=>by
  obtain⟨h1,h2⟩:=c_lmx_iff.1 hc;dsimp only at*
  refine(yZ R K q n ((a)) (((n-1+1:Nat):Int)) r).trans ?_;rw[AB (show¬((n-1+1:Nat):Int)<(n:Int) by omega)];rfl)
theorem iI:Bi Cmn:=Aq enter mixed (fun p h=>by cases h) (fun l h=>by
 simp only[A8,A7,or_false]at h;rcases h with rfl|rfl
 ·exact Ad6
 ·exact Abx)
def Af2(r:Row):Int:=AP (fun j a=>if r.I (j+1) 0<a then r.I (j+1) 0 else a) (r.n-1) 0 (r.I 0 0)
def mD(r:Row):Int:=AP (fun j a=>if r.I (j+1) 0>a then r.I (j+1) 0 else a) (r.n-1) 0 (r.I 0 0)
def Fmn:FD
 |[.slice [.int .i64] r]=>some (1<=r.n∧r.n<=1000000,[.v (i64 (Af2 r))])
 |_=>none
def Fmx:FD
 |[.slice [.int .i64] r]=>some (1<=r.n∧r.n<=1000000,[.v (i64 (mD r))])
 |_=>none
theorem Ad7:Den Tryz.prog 157 Fmn:=Ag iI fun ds rs h=>by
 unfold Fmn at h;split at h
 ·rename_i r;simp only[A5,A6,A3]at h;obtain⟨⟨h0,h1⟩,rfl⟩:=h;refine(umn r).trans ?_;rw[AB (show¬(r.n:Int)<1 by omega),show(decide ((0:Int)<=0)&&decide (0<(r.n:Int)))=true by simp;omega,c_lmn_iff.2 ⟨rfl,h1⟩,Ac,Aa,Aa];rfl
 ·cases h
theorem Aeh:Den Tryz.prog 158 Fmx:=Ag iI fun ds rs h=>by
 unfold Fmx at h;split at h
 ·rename_i r;simp only[A5,A6,A3]at h;obtain⟨⟨h0,h1⟩,rfl⟩:=h;refine(umx r).trans ?_;rw[AB (show¬(r.n:Int)<1 by omega),show(decide ((0:Int)<=0)&&decide (0<(r.n:Int)))=true by simp;omega,c_lmx_iff.2 ⟨rfl,h1⟩,Ac,Aa,Aa];rfl
 ·cases h
def Aa3:Ed:={τ:=pu 1++[.v (.c (.pointer (some ⟨0,0,some 0⟩)))]++pu 47++[.v (.int .i64),.v (.int .i64)]++pu 31,saved:=[[]],mem:=[.box [.v (.int .i64),.v (.sl 1),.v (.sl 2)],.row [.int .i64] false,.row [.int .i64] false]}
structure A_lck where
 m:Int
 j:Int
 l:Int
 pn:Nat
 qn:Nat
 p:Row
 q0:Row
def lT(its:List It):Option A_lck:=match its with|[.i m,.i j,.i l,.n pn,.n qn,.r p,.r q0]=>some ⟨m,j,l,pn,qn,p,q0⟩|_=>none
def dV(x:A_lck):Bool:=x.j=0∧x.m=(x.pn:Int)-1∧1<=x.pn∧x.pn<=1000000
def c_lck_iff{x:A_lck}:=@BC _ dV _ _ rfl x
def lck:ScanL A_lck:=⟨119,7,[1,49,50],[1,2],Aa3,lT,fun x j=>[.i x.m,.i (j:Int),.i x.l,.n x.pn,.n x.qn,.r x.p,.r x.q0],fun x=>x.pn-1,dV,fun x j=>decide (x.p.I j 0>=x.p.I (j+1) 0),fun x j K=>K .ret ⟨us 1++[.pointer (some ⟨0,0,some 0⟩),i64 8]++us 79,[[]],[some (.box [i64 x.l,S_ 1 0 x.pn,S_ 2 0 x.qn]),some (.row [.int .i64] false x.p),some (.row [.int .i64] false x.q0)]⟩,fun x K=>K (.exit 0) ⟨us 1++[.pointer (some ⟨0,0,some 0⟩)]++us 80,[[]],[some (.box [i64 x.l,S_ 1 0 x.pn,S_ 2 0 x.qn]),some (.row [.int .i64] false x.p),some (.row [.int .i64] false x.q0)]⟩⟩
noncomputable def Cck:Cx:=AU Tryz.prog fns [(157,Fmn),(158,Fmx)] [lck.C]
theorem Aa8(R:St->OD)(K:X->St->OD)(q:Nat)(m j l:Int)(pn qn:Nat)(p q0:Row):Ar Cck 119 7 q (bst Aa3 [.i m,.i j,.i l,.n pn,.n qn,.r p,.r q0]) (BI [1,49,50] (some [1,2]) R K)=br (j<m) (br (0<=j&&j<(pn:Int)) (br (0<=IntKind.i64.wrap (j+1)&&IntKind.i64.wrap (j+1)<(pn:Int)) (br (p.I (0+j.toNat) 0>=p.I (0+(IntKind.i64.wrap (j+1)).toNat) 0) (K .ret ⟨us 1++[.pointer (some ⟨0,0,some 0⟩),i64 8]++us 79,[[]],[some (.box [i64 l,S_ 1 0 pn,S_ 2 0 qn]),some (.row [.int .i64] false p),some (.row [.int .i64] false q0)]⟩) (R ⟨us 1++[.pointer (some ⟨0,0,some 0⟩)]++us 47++[i64 m,i64 (IntKind.i64.wrap (j+1))]++us 31,[[]],[some (.box [i64 l,S_ 1 0 pn,S_ 2 0 qn]),some (.row [.int .i64] false p),some (.row [.int .i64] false q0)]⟩)) none) none) (K (.exit 0) ⟨us 1++[.pointer (some ⟨0,0,some 0⟩)]++us 80,[[]],[some (.box [i64 l,S_ 1 0 pn,S_ 2 0 qn]),some (.row [.int .i64] false p),some (.row [.int .i64] false q0)]⟩):=by kernel_rfl
theorem uck(l:Int)(p q:Row):BZ Cck 6 119 [.agg [.v (i64 l),.slice FW p,.slice FW q]]=br (l>1000) (some [.v (i64 4)]) (br ((p.n:Int)>40) (some [.v (i64 4)]) (br (l<1) (some [.v (i64 8)]) (br ((p.n:Int)<2) (some [.v (i64 8)]) (br ((q.n:Int) !=IntKind.i64.wrap ((p.n:Int)-1)) (some [.v (i64 8)]) (br ((0:Int)<=0&&0<(p.n:Int)) (br (p.I 0 0 !=0) (some [.v (i64 8)]) (br (0<=IntKind.i64.wrap ((p.n:Int)-1)&&IntKind.i64.wrap ((p.n:Int)-1)<(p.n:Int)) (br (p.I (0+(IntKind.i64.wrap ((p.n:Int)-1)).toNat) 0 !=l) (some [.v (i64 8)]) (br (dV (⟨IntKind.i64.wrap ((p.n:Int)-1),0,l,p.n,q.n,p,q⟩:A_lck)) (br (Ap (fun j=>decide (p.I j 0>=p.I (j+1) 0)) (p.n-1) 0) (some [.v (i64 8)]) (br (decide (1<=(w_ q 0 q.n).n∧(w_ q 0 q.n).n<=1000000)) (br (Af2 (w_ q 0 q.n)<0) (some [.v (i64 8)]) (br (decide (1<=(w_ q 0 q.n).n∧(w_ q 0 q.n).n<=1000000)) (br (mD (w_ q 0 q.n)>12) (some [.v (i64 8)]) (br (decide (1<=(w_ q 0 q.n).n∧(w_ q 0 q.n).n<=1000000)) (br (mD (w_ q 0 q.n)==0) (some [.v (i64 8)]) (some [.v (i64 0)])) none)) none)) none)) none)) none)) none))))):=by kernel_rfl
theorem Acw:Ai Cck lck.C:=lck.ok (by kernel_rfl)
 (fun its x h hc=>by
  replace h:lT its=some x:=h;unfold lT at h;split at h
  ·cases h;obtain⟨h1,h2,h3,h4⟩:=c_lck_iff.1 hc;dsimp only at h1 h2;subst h1 h2;rfl
  ·cases h)
 (fun x hc=>by have:=c_lck_iff.1 hc;show x.pn-1<18446744073709551616;omega)
 (fun q ⟨m,j0,l,pn,qn,p,q0⟩ j hc hi R K=>by
  obtain⟨h1,h2,h3,h4⟩:=c_lck_iff.1 hc;dsimp only at*
  replace hi:j<pn-1:=hi;refine(Aa8 R K q m ((j:Int)) l pn qn p q0).trans ?_;rw[h2,show(IntKind.i64.wrap ((j:Int)+1))=((j+1:Nat):Int)from(wrap64 (by omega) (by omega)).trans (by omega),A9,A9,AE,AE,gd j pn (by omega),gd (j+1) pn (by omega),A4 (show(j:Int)<(pn:Int)-1 by omega)];rfl)
 (fun q ⟨m,j0,l,pn,qn,p,q0⟩ hc R K=>by
  obtain⟨h1,h2,h3,h4⟩:=c_lck_iff.1 hc;dsimp only at*
  refine(Aa8 R K q m (((pn-1:Nat):Int)) l pn qn p q0).trans ?_;rw[h2,AB (show¬((pn-1:Nat):Int)<(pn:Int)-1 by omega)];rfl)
theorem Ag1:Bi Cck:=Aq enter mixed (fun p h=>by
 simp only[A8,A7,or_false]at h;rcases h with rfl|rfl
 ·exact Ad7
 ·exact Aeh) (fun l h=>by
 simp only[A8,A7,or_false]at h;rcases h with rfl;exact Acw)
theorem DN{c:Bool}{a t:Int}{T:OD}(h:c=false->T=some [.v (i64 t)]):br c (some [.v (i64 a)]) T=some [.v (i64 (bif c then a else t))]:=by
 cases c
 ·exact h rfl
 ·rfl
theorem JD{c:Bool}{T r:OD}(hc:c=true)(h:T=r):br c T none=r:=by rw[hc];exact h
def bC(p:Row):Bool:=Ap (fun j=>decide (p.I j 0>=p.I (j+1) 0)) (p.n-1) 0
def Tj(l:Int)(p q:Row):Int:=bif l>1000 then 4 else bif (p.n:Int)>40 then 4 else bif l<1 then 8 else bif (p.n:Int)<2 then 8 else bif (q.n:Int) !=(p.n:Int)-1 then 8 else bif p.I 0 0 !=0 then 8 else bif p.I (p.n-1) 0 !=l then 8 else bif bC p then 8 else bif Af2 q<0 then 8 else bif mD q>12 then 8 else bif mD q==0 then 8 else 0
def Aee:FD
 |[.agg [.v (.int .i64 l),.slice [.int .i64] p,.slice [.int .i64] q]]=>some (p.n<=1000000∧q.n<=1000000,[.v (i64 (Tj l p q))])
 |_=>none
theorem qA:Den Tryz.prog 119 Aee:=Ag Ag1 fun ds rs h=>by
 unfold Aee at h;split at h
 ·rename_i l p q;simp only[A5,A6,A3]at h;obtain⟨⟨hp,hq⟩,rfl⟩:=h;refine(uck l p q).trans ?_;rw[show IntKind.i64.wrap ((p.n:Int)-1)=(p.n:Int)-1 from wrap64 (by omega) (by omega)];refine DN fun h1=>DN fun h2=>DN fun h3=>DN fun h4=>DN fun h5=>?_;have k4:¬(p.n:Int)<2:=AO h4;have k5:(q.n:Int)=(p.n:Int)-1:=by simpa using h5
  have e1:((p.n:Int)-1).toNat=p.n-1:=by omega
  refine JD (by simp;omega) (DN fun h6=>JD (by simp;omega) ?_);rw[e1,AE];refine DN fun h7=>JD (c_lck_iff.2 ⟨rfl,rfl,by show 1<=p.n;omega,hp⟩) (DN fun h8=>?_);have w:decide (1<=(w_ q 0 q.n).n∧(w_ q 0 q.n).n<=1000000)=true:=A4 (by rw[wn_];omega);exact JD w (DN fun h9=>JD w (DN fun h10=>JD w (DN fun h11=>rfl)))
 ·cases h
def CkP(r:Row)(n:Nat):Prop:=∀i,i<n->(r.R i 1).n<=1000000∧(r.R i 2).n<=1000000
instance(r:Row)(n:Nat):Decidable (CkP r n):=by unfold CkP;infer_instance
def O8(r:Row)(j:Nat):Int:=Tj (r.I j 0) (w_ (r.R j 1) 0 (r.R j 1).n) (w_ (r.R j 2) 0 (r.R j 2).n)
def Aaw:Ed:={τ:=pu 1++[.v (.c (.pointer (some ⟨0,0,some 0⟩)))]++pu 21++[.v (.sl 1),.v (.int .i64),.v (.int .i64)]++pu 25,saved:=[[]],mem:=[.box [.v (.sl 1),.v (.sl 2)],.row [.int .i64,.slice [.int .i64],.slice [.int .i64]] false,.row [.int .i64,.int .u8,.int .i64,.int .i64,.int .i64,.int .i64,.int .i64,.int .i64] false]}
structure A_lk6 where
 rn:Nat
 len:Int
 j:Int
 rn_2:Nat
 sn:Nat
 r:Row
 s:Row
def jG(its:List It):Option A_lk6:=match its with|[.n rn,.i len,.i j,.n rn_2,.n sn,.r r,.r s]=>some ⟨rn,len,j,rn_2,sn,r,s⟩|_=>none
def dU(x:A_lk6):Bool:=x.j=0∧x.len=x.rn∧x.rn_2=x.rn∧x.rn<=1000000∧CkP x.r x.rn
def c_lk6_iff{x:A_lk6}:=@BC _ dU _ _ rfl x
def lk6:ScanL A_lk6:=⟨75,6,[1,23,24,25],[1,2],Aaw,jG,fun x j=>[.n x.rn,.i (x.rn:Int),.i (j:Int),.n x.rn,.n x.sn,.r x.r,.r x.s],fun x=>x.rn,dU,fun x j=>O8 x.r j !=0,fun x j K=>K .ret ⟨us 1++[.pointer (some ⟨0,0,some 0⟩),i64 (O8 x.r j)]++us 48,[[]],[some (.box [S_ 1 0 x.rn,S_ 2 0 x.sn]),some (.row [.int .i64,.slice [.int .i64],.slice [.int .i64]] false x.r),some (.row [.int .i64,.int .u8,.int .i64,.int .i64,.int .i64,.int .i64,.int .i64,.int .i64] false x.s)]⟩,fun x K=>K (.exit 0) ⟨us 1++[.pointer (some ⟨0,0,some 0⟩)]++us 49,[[]],[some (.box [S_ 1 0 x.rn,S_ 2 0 x.sn]),some (.row [.int .i64,.slice [.int .i64],.slice [.int .i64]] false x.r),some (.row [.int .i64,.int .u8,.int .i64,.int .i64,.int .i64,.int .i64,.int .i64,.int .i64] false x.s)]⟩⟩
def aK:Ed:={τ:=pu 1++[.v (.c (.pointer (some ⟨0,0,some 0⟩)))]++pu 34++[.v (.sl 1),.v (.int .i64),.v (.int .i64)]++pu 12,saved:=[[]],mem:=[.box [.v (.sl 1),.v (.sl 2)],.row [.int .i64,.slice [.int .i64],.slice [.int .i64]] false,.row [.int .i64,.int .u8,.int .i64,.int .i64,.int .i64,.int .i64,.int .i64,.int .i64] false]}
structure A_lk13 where
 rn:Nat
 len:Int
 j:Int
 rn_2:Nat
 sn:Nat
 r:Row
 s:Row
def VB(its:List It):Option A_lk13:=match its with|[.n rn,.i len,.i j,.n rn_2,.n sn,.r r,.r s]=>some ⟨rn,len,j,rn_2,sn,r,s⟩|_=>none
def VV(x:A_lk13):Bool:=x.j=0∧x.len=x.rn∧x.rn_2=x.rn∧x.rn<=1000000
def c_lk13_iff{x:A_lk13}:=@BC _ VV _ _ rfl x
def lk13:ScanL A_lk13:=⟨75,13,[1,36,37,38],[2],aK,VB,fun x j=>[.n x.rn,.i (x.rn:Int),.i (j:Int),.n x.rn,.n x.sn,.r x.r,.r x.s],fun x=>x.rn,VV,fun x j=>x.r.I j 0 !=x.r.I 0 0,fun x j K=>K .ret ⟨us 2++[i64 8]++us 48,[[]],[]⟩,fun x K=>K (.exit 2) ⟨us 51,[[]],[]⟩⟩
noncomputable def Cak:Cx:=AU Tryz.prog fns [(119,Aee)] [lk6.C,lk13.C]
theorem Aac(R:St->OD)(K:X->St->OD)(q rn:Nat)(len j:Int)(rn_2 sn:Nat)(r s:Row):Ar Cak 75 6 q (bst Aaw [.n rn,.i len,.i j,.n rn_2,.n sn,.r r,.r s]) (BI [1,23,24,25] (some [1,2]) R K)=br (j<len) (br (0<=j&&j<(rn:Int)) (br (decide ((w_ (r.R (0+j.toNat) 1) 0 (r.R (0+j.toNat) 1).n).n<=1000000∧(w_ (r.R (0+j.toNat) 2) 0 (r.R (0+j.toNat) 2).n).n<=1000000)) (br (Tj (r.I (0+j.toNat) 0) (w_ (r.R (0+j.toNat) 1) 0 (r.R (0+j.toNat) 1).n) (w_ (r.R (0+j.toNat) 2) 0 (r.R (0+j.toNat) 2).n) !=0) (K .ret ⟨us 1++[.pointer (some ⟨0,0,some 0⟩),i64 (Tj (r.I (0+j.toNat) 0) (w_ (r.R (0+j.toNat) 1) 0 (r.R (0+j.toNat) 1).n) (w_ (r.R (0+j.toNat) 2) 0 (r.R (0+j.toNat) 2).n))]++us 48,[[]],[some (.box [S_ 1 0 rn_2,S_ 2 0 sn]),some (.row [.int .i64,.slice [.int .i64],.slice [.int .i64]] false r),some (.row [.int .i64,.int .u8,.int .i64,.int .i64,.int .i64,.int .i64,.int .i64,.int .i64] false s)]⟩) (R ⟨us 1++[.pointer (some ⟨0,0,some 0⟩)]++us 21++[S_ 1 0 rn,i64 len,i64 (IntKind.i64.wrap (j+1))]++us 25,[[]],[some (.box [S_ 1 0 rn_2,S_ 2 0 sn]),some (.row [.int .i64,.slice [.int .i64],.slice [.int .i64]] false r),some (.row [.int .i64,.int .u8,.int .i64,.int .i64,.int .i64,.int .i64,.int .i64,.int .i64] false s)]⟩)) none) none) (K (.exit 0) ⟨us 1++[.pointer (some ⟨0,0,some 0⟩)]++us 49,[[]],[some (.box [S_ 1 0 rn_2,S_ 2 0 sn]),some (.row [.int .i64,.slice [.int .i64],.slice [.int .i64]] false r),some (.row [.int .i64,.int .u8,.int .i64,.int .i64,.int .i64,.int .i64,.int .i64,.int .i64] false s)]⟩):=by kernel_rfl
theorem aN(R:St->OD)(K:X->St->OD)(q rn:Nat)(len j:Int)(rn_2 sn:Nat)(r s:Row):Ar Cak 75 13 q (bst aK [.n rn,.i len,.i j,.n rn_2,.n sn,.r r,.r s]) (BI [1,36,37,38] (some [2]) R K)=br (j<len) (br (0<=j&&j<(rn:Int)) (br ((0:Int)<=0&&0<(rn_2:Int)) (br (r.I (0+j.toNat) 0 !=r.I 0 0) (K .ret ⟨us 2++[i64 8]++us 48,[[]],[]⟩) (R ⟨us 1++[.pointer (some ⟨0,0,some 0⟩)]++us 34++[S_ 1 0 rn,i64 len,i64 (IntKind.i64.wrap (j+1))]++us 12,[[]],[some (.box [S_ 1 0 rn_2,S_ 2 0 sn]),some (.row [.int .i64,.slice [.int .i64],.slice [.int .i64]] false r),some (.row [.int .i64,.int .u8,.int .i64,.int .i64,.int .i64,.int .i64,.int .i64,.int .i64] false s)]⟩)) none) none) (K (.exit 2) ⟨us 51,[[]],[]⟩):=by kernel_rfl
theorem uak(r s:Row):BZ Cak 6 75 [.agg [.slice [.int .i64,.slice [.int .i64],.slice [.int .i64]] r,.slice [.int .i64,.int .u8,.int .i64,.int .i64,.int .i64,.int .i64,.int .i64,.int .i64] s]]=br ((r.n:Int)>6) (some [.v (i64 4)]) (br ((s.n:Int)>2000) (some [.v (i64 4)]) (br ((r.n:Int)==0) (some [.v (i64 8)]) (br (dU (⟨r.n,(r.n:Int),0,r.n,s.n,r,s⟩:A_lk6)) (br (Ap (fun j=>O8 r j !=0) r.n 0) (some [.v (i64 (O8 r (FU (fun j=>O8 r j !=0) r.n 0)))]) (br (VV (⟨r.n,(r.n:Int),0,r.n,s.n,r,s⟩:A_lk13)) (br (Ap (fun j=>r.I j 0 !=r.I 0 0) r.n 0) (some [.v (i64 8)]) (some [.v (i64 0)])) none)) none))):=by kernel_rfl
theorem Abk:Ai Cak lk6.C:=lk6.ok (by kernel_rfl)
 (fun its x h hc=>by
  replace h:jG its=some x:=h;unfold jG at h;split at h
  ·cases h;obtain⟨h1,h2,h3,h4,h5⟩:=c_lk6_iff.1 hc;dsimp only at h1 h2 h3;subst h1 h2 h3;rfl
  ·cases h)
 (fun x hc=>by have:=c_lk6_iff.1 hc;show x.rn<18446744073709551616;omega)
 (fun q ⟨rn,len0,j0,rn_2,sn,r,s⟩ j hc hi R K=>by
  obtain⟨h1,h2,h3,h4,h5⟩:=c_lk6_iff.1 hc;dsimp only at*
  replace hi:j<rn:=hi;refine(Aac R K q rn ((rn:Int)) ((j:Int)) rn sn r s).trans ?_;have k1:=h5 j hi;rw[A9,AE j,gd j rn hi,Fe j rn hi,FH (by omega),A4 (show(w_ (r.R j 1) 0 (r.R j 1).n).n<=1000000∧(w_ (r.R j 2) 0 (r.R j 2).n).n<=1000000 by rw[wn_,wn_];exact k1)];rfl)
 (fun q ⟨rn,len0,j0,rn_2,sn,r,s⟩ hc R K=>by
  obtain⟨h1,h2,h3,h4,h5⟩:=c_lk6_iff.1 hc;dsimp only at*
  refine(Aac R K q rn ((rn:Int)) ((rn:Int)) rn sn r s).trans ?_;rw[F8 rn];rfl)
theorem sQ:Ai Cak lk13.C:=lk13.ok (by kernel_rfl)
 (fun its x h hc=>by
  replace h:VB its=some x:=h;unfold VB at h;split at h
  ·cases h;obtain⟨h1,h2,h3,h4⟩:=c_lk13_iff.1 hc;dsimp only at h1 h2 h3;subst h1 h2 h3;rfl
  ·cases h)
 (fun x hc=>by have:=c_lk13_iff.1 hc;show x.rn<18446744073709551616;omega)
 (fun q ⟨rn,len0,j0,rn_2,sn,r,s⟩ j hc hi R K=>by
  obtain⟨h1,h2,h3,h4⟩:=c_lk13_iff.1 hc;dsimp only at*
  replace hi:j<rn:=hi;refine(aN R K q rn ((rn:Int)) ((j:Int)) rn sn r s).trans ?_;rw[A9,AE j,gd j rn hi,Fe j rn hi,FH (by omega),show(decide ((0:Int)<=0)&&decide ((0:Int)<(rn:Int)))=true by simp;omega];rfl)
 (fun q ⟨rn,len0,j0,rn_2,sn,r,s⟩ hc R K=>by
  obtain⟨h1,h2,h3,h4⟩:=c_lk13_iff.1 hc;dsimp only at*
  refine(aN R K q rn ((rn:Int)) ((rn:Int)) rn sn r s).trans ?_;rw[F8 rn];rfl)
theorem Abn:Bi Cak:=Aq enter mixed (fun p h=>by
 simp only[A8,A7,or_false]at h;rcases h with rfl;exact qA) (fun l h=>by
 simp only[A8,A7,or_false]at h;rcases h with rfl|rfl
 ·exact Abk
 ·exact sQ)
def Nw(r:Row):Int:=bif (r.n:Int)>6 then 4 else bif (r.n:Int)==0 then 8 else bif Ap (fun j=>O8 r j !=0) r.n 0 then O8 r (FU (fun j=>O8 r j !=0) r.n 0)else bif Ap (fun j=>r.I j 0 !=r.I 0 0) r.n 0 then 8 else 0
def Ae1:FD
 |[.agg [.slice [.int .i64,.slice [.int .i64],.slice [.int .i64]] r,.slice [.int .i64,.int .u8,.int .i64,.int .i64,.int .i64,.int .i64,.int .i64,.int .i64] s]]=>some (r.n<=1000000∧CkP r r.n∧s.n<=2000,[.v (i64 (Nw r))])
 |_=>none
theorem vV:Den Tryz.prog 75 Ae1:=Ag Abn fun ds rs h=>by
 unfold Ae1 at h;split at h
 ·rename_i r s;simp only[A5,A6,A3]at h;obtain⟨⟨h0,h1,h2⟩,rfl⟩:=h;refine(uak r s).trans ?_;rw[AB (show¬(s.n:Int)>2000 by omega),Ac,c_lk6_iff.2 ⟨rfl,rfl,rfl,h0,h1⟩,Aa,c_lk13_iff.2 ⟨rfl,rfl,rfl,h0⟩,Aa];exact DN fun _=>DN fun _=>DN fun _=>DN fun _=>rfl
 ·cases h
def FPc(c:Row->Row->Bool)(b:Row->Row->Int):FD
 |[.slice [.int .i64,.slice [.int .i64],.slice [.int .i64]] r,.agg [.slice [.slice [.int .i64,.int .i64,.int .i64,.int .i64]] p]]=>some (c r p,[.v (i64 (b r p))])
 |_=>none
def SpP(s:Row)(n:Nat):Prop:=∀i,i<n->(s.R i 0).n<=1000000∧∀k,k<(s.R i 0).n->Wx (s.R i 0) k=true
instance(s:Row)(n:Nat):Decidable (SpP s n):=by unfold SpP;infer_instance
def LH(s:Row)(j:Nat):Int:=V7 (w_ (s.R j 0) 0 (s.R j 0).n)
def xP:Ed:={τ:=[.v (.sl 0)]++pu 2++[.v (.c (.pointer (some ⟨1,0,some 0⟩)))]++pu 21++[.v (.sl 2),.v (.int .i64),.v (.int .i64)]++pu 43,saved:=[[]],mem:=[.row [.int .i64,.slice [.int .i64],.slice [.int .i64]] false,.box [.v (.sl 2)],.row [.slice [.int .i64,.int .i64,.int .i64,.int .i64]] false]}
structure A_lp7 where
 rn:Nat
 n:Nat
 len:Int
 j:Int
 r:Row
 n_2:Nat
 s:Row
def aF(its:List It):Option A_lp7:=match its with|[.n rn,.n n,.i len,.i j,.r r,.n n_2,.r s]=>some ⟨rn,n,len,j,r,n_2,s⟩|_=>none
def nM(x:A_lp7):Bool:=x.j=0∧x.len=x.n∧x.n_2=x.n∧x.n<=1000000∧SpP x.s x.n
def c_lp7_iff{x:A_lp7}:=@BC _ nM _ _ rfl x
def lp7:ScanL A_lp7:=⟨32,7,[0,3,25,26,27],[0,3,4],xP,aF,fun x j=>[.n x.rn,.n x.n,.i (x.n:Int),.i (j:Int),.r x.r,.n x.n,.r x.s],fun x=>x.n,nM,fun x j=>LH x.s j !=0,fun x j K=>K .ret ⟨[S_ 0 0 x.rn]++us 2++[.pointer (some ⟨1,0,some 0⟩),i64 (LH x.s j)]++us 66,[[]],[some (.row [.int .i64,.slice [.int .i64],.slice [.int .i64]] false x.r),some (.box [S_ 2 0 x.n]),some (.row [.slice [.int .i64,.int .i64,.int .i64,.int .i64]] false x.s)]⟩,fun x K=>K (.exit 0) ⟨[S_ 0 0 x.rn]++us 2++[.pointer (some ⟨1,0,some 0⟩)]++us 67,[[]],[some (.row [.int .i64,.slice [.int .i64],.slice [.int .i64]] false x.r),some (.box [S_ 2 0 x.n]),some (.row [.slice [.int .i64,.int .i64,.int .i64,.int .i64]] false x.s)]⟩⟩
def Ah9:FD
 |[.v (.int .i64 a)]=>some (Rt.iR a,[.agg [.v (i64 a),.v (i64 1)]])
 |_=>none
noncomputable def Cwh:Cx:=AU Tryz.prog fns [] []
theorem Ad3:Bi Cwh:=Aq enter mixed (fun p h=>by cases h) (fun l h=>by cases h)
theorem uwh(a:Int):BZ Cwh 6 78 [.v (i64 a)]=some [.agg [.v (i64 a),.v (i64 1)]]:=by kernel_rfl
theorem vY:Den Tryz.prog 78 Ah9:=Ag Ad3 fun ds rs h=>by
 unfold Ah9 at h;split at h
 ·rename_i a;simp only[A5,A6]at h;obtain⟨h0,rfl⟩:=h;obtain⟨h1,h2⟩:=Rt.iR_iff.1 h0;refine(uwh a).trans ?_
  first|rfl|rw[wrap64 (by omega) (by omega)]
 ·cases h
def Wj(r s:Row)(j:Nat):Bool:=bif ((s.R j 0).n:Int)>0 then decide ((s.R j 0).I 0 0<0)||decide (Rt.cpC (r.I 0 0) 1 ((s.R j 0).I ((s.R j 0).n-1) 2) ((s.R j 0).I ((s.R j 0).n-1) 3)<0)else false
def mZ:Ed:={τ:=[.v (.sl 0)]++pu 37++[.v (.sl 1),.v (.int .i64),.v (.int .i64)]++pu 30,saved:=[[]],mem:=[.row [.int .i64,.slice [.int .i64],.slice [.int .i64]] false,.row [.slice [.int .i64,.int .i64,.int .i64,.int .i64]] false]}
structure A_lp14 where
 rn:Nat
 n:Nat
 len:Int
 j:Int
 r:Row
 s:Row
def Vk(its:List It):Option A_lp14:=match its with|[.n rn,.n n,.i len,.i j,.r r,.r s]=>some ⟨rn,n,len,j,r,s⟩|_=>none
def UZ(x:A_lp14):Bool:=x.j=0∧x.len=x.n∧x.n<=1000000∧SpP x.s x.n∧1<=x.rn∧Rt.iR (x.r.I 0 0)=true
def c_lp14_iff{x:A_lp14}:=@BC _ UZ _ _ rfl x
def lp14:ScanL A_lp14:=⟨32,14,[0,38,39,40],[4],mZ,Vk,fun x j=>[.n x.rn,.n x.n,.i (x.n:Int),.i (j:Int),.r x.r,.r x.s],fun x=>x.n,UZ,fun x j=>Wj x.r x.s j,fun x j K=>K .ret ⟨us 4++[i64 2]++us 66,[[]],[]⟩,fun x K=>K (.exit 2) ⟨us 71,[[]],[]⟩⟩
noncomputable def Cp7:Cx:=AU Tryz.prog fns [(75,Ae1),(76,Acx),(77,Afs),(78,Ah9)] [lp7.C,lp14.C]
theorem xU(R:St->OD)(K:X->St->OD)(q rn n:Nat)(len j:Int)(r:Row)(n_2:Nat)(s:Row):Ar Cp7 32 7 q (bst xP [.n rn,.n n,.i len,.i j,.r r,.n n_2,.r s]) (BI [0,3,25,26,27] (some [0,3,4]) R K)=br (j<len) (br (0<=j&&j<(n:Int)) (br (decide ((w_ (s.R (0+j.toNat) 0) 0 (s.R (0+j.toNat) 0).n).n<=1000000∧∀(i:Nat),i<(w_ (s.R (0+j.toNat) 0) 0 (s.R (0+j.toNat) 0).n).n->Wx (w_ (s.R (0+j.toNat) 0) 0 (s.R (0+j.toNat) 0).n) i=true)) (br (V7 (w_ (s.R (0+j.toNat) 0) 0 (s.R (0+j.toNat) 0).n) !=0) (K .ret ⟨[S_ 0 0 rn]++us 2++[.pointer (some ⟨1,0,some 0⟩),i64 (V7 (w_ (s.R (0+j.toNat) 0) 0 (s.R (0+j.toNat) 0).n))]++us 66,[[]],[some (.row [.int .i64,.slice [.int .i64],.slice [.int .i64]] false r),some (.box [S_ 2 0 n_2]),some (.row [.slice [.int .i64,.int .i64,.int .i64,.int .i64]] false s)]⟩) (R ⟨[S_ 0 0 rn]++us 2++[.pointer (some ⟨1,0,some 0⟩)]++us 21++[S_ 2 0 n,i64 len,i64 (IntKind.i64.wrap (j+1))]++us 43,[[]],[some (.row [.int .i64,.slice [.int .i64],.slice [.int .i64]] false r),some (.box [S_ 2 0 n_2]),some (.row [.slice [.int .i64,.int .i64,.int .i64,.int .i64]] false s)]⟩)) none) none) (K (.exit 0) ⟨[S_ 0 0 rn]++us 2++[.pointer (some ⟨1,0,some 0⟩)]++us 67,[[]],[some (.row [.int .i64,.slice [.int .i64],.slice [.int .i64]] false r),some (.box [S_ 2 0 n_2]),some (.row [.slice [.int .i64,.int .i64,.int .i64,.int .i64]] false s)]⟩):=by kernel_rfl
theorem dS(R:St->OD)(K:X->St->OD)(q rn n:Nat)(len j:Int)(r s:Row):Ar Cp7 32 14 q (bst mZ [.n rn,.n n,.i len,.i j,.r r,.r s]) (BI [0,38,39,40] (some [4]) R K)=br (j<len) (br (0<=j&&j<(n:Int)) (br ((↑(s.R (0+j.toNat) 0).n:Int)>0) (br ((0:Int)<=0&&0<(↑(s.R (0+j.toNat) 0).n:Int)) (br ((s.R (0+j.toNat) 0).I (0+0) 0<0) (K .ret ⟨us 4++[i64 2]++us 66,[[]],[]⟩) (br ((0:Int)<=0&&0<(rn:Int)) (br (Rt.iR (r.I 0 0)) (br (0<=IntKind.i64.wrap ((↑(s.R (0+j.toNat) 0).n:Int)-1)&&IntKind.i64.wrap ((↑(s.R (0+j.toNat) 0).n:Int)-1)<(↑(s.R (0+j.toNat) 0).n:Int)) (br (Rt.iR (r.I 0 0)&&Rt.iR 1&&Rt.iR ((s.R (0+j.toNat) 0).I (0+(IntKind.i64.wrap ((↑(s.R (0+j.toNat) 0).n:Int)-1)).toNat) 2)&&Rt.iR ((s.R (0+j.toNat) 0).I (0+(IntKind.i64.wrap ((↑(s.R (0+j.toNat) 0).n:Int)-1)).toNat) 3)) (br (Rt.cpC (r.I (0+0) 0) 1 ((s.R (0+j.toNat) 0).I (0+(IntKind.i64.wrap ((↑(s.R (0+j.toNat) 0).n:Int)-1)).toNat) 2) ((s.R (0+j.toNat) 0).I (0+(IntKind.i64.wrap ((↑(s.R (0+j.toNat) 0).n:Int)-1)).toNat) 3)<0) (K .ret ⟨us 4++[i64 2]++us 66,[[]],[]⟩) (R ⟨[S_ 0 0 rn]++us 37++[S_ 1 0 n,i64 len,i64 (IntKind.i64.wrap (j+1))]++us 30,[[]],[some (.row [.int .i64,.slice [.int .i64],.slice [.int .i64]] false r),some (.row [.slice [.int .i64,.int .i64,.int .i64,.int .i64]] false s)]⟩)) none) none) none) none)) none) (R ⟨[S_ 0 0 rn]++us 37++[S_ 1 0 n,i64 len,i64 (IntKind.i64.wrap (j+1))]++us 30,[[]],[some (.row [.int .i64,.slice [.int .i64],.slice [.int .i64]] false r),some (.row [.slice [.int .i64,.int .i64,.int .i64,.int .i64]] false s)]⟩)) none) (K (.exit 2) ⟨us 71,[[]],[]⟩):=by kernel_rfl
theorem up7(r s:Row):BZ Cp7 6 32 [.slice [.int .i64,.slice [.int .i64],.slice [.int .i64]] r,.agg [.slice [.slice [.int .i64,.int .i64,.int .i64,.int .i64]] s]]=br (decide ((w_ r 0 r.n).n<=1000000∧CkP (w_ r 0 r.n) (w_ r 0 r.n).n∧Row.nil.n<=2000)) (br (Nw (w_ r 0 r.n) !=0) (some [.v (i64 (Nw (w_ r 0 r.n)))]) (br ((s.n:Int) !=(r.n:Int)) (some [.v (i64 2)]) (br (nM (⟨r.n,s.n,(s.n:Int),0,r,s.n,s⟩:A_lp7)) (br (Ap (fun j=>LH s j !=0) s.n 0) (some [.v (i64 (LH s (FU (fun j=>LH s j !=0) s.n 0)))]) (br (UZ (⟨r.n,s.n,(s.n:Int),0,r,s⟩:A_lp14)) (br (Ap (fun j=>Wj r s j) s.n 0) (some [.v (i64 2)]) (some [.v (i64 0)])) none)) none))) (none):=by kernel_rfl
theorem Acl:Ai Cp7 lp7.C:=lp7.ok (by kernel_rfl)
 (fun its x h hc=>by
  replace h:aF its=some x:=h;unfold aF at h;split at h
  ·cases h;obtain⟨h1,h2,h3,h4,h5⟩:=c_lp7_iff.1 hc;dsimp only at h1 h2 h3;subst h1 h2 h3;rfl
  ·cases h)
 (fun x hc=>by have:=c_lp7_iff.1 hc;show x.n<18446744073709551616;omega)
 (fun q ⟨rn,n,len0,j0,r,n_2,s⟩ j hc hi R K=>by
  obtain⟨h1,h2,h3,h4,h5⟩:=c_lp7_iff.1 hc;dsimp only at*
  replace hi:j<n:=hi;refine(xU R K q rn n ((n:Int)) ((j:Int)) r n s).trans ?_;have k1:=h5 j hi;rw[A9,AE j,gd j n hi,Fe j n hi,FH (by omega),A4 (show(w_ (s.R j 0) 0 (s.R j 0).n).n<=1000000∧∀i,i<(w_ (s.R j 0) 0 (s.R j 0).n).n->Wx (w_ (s.R j 0) 0 (s.R j 0).n) i=true by rw[wn_];exact⟨k1.1,fun i hi=>by rw[X4];exact k1.2 i hi⟩)];rfl)
 (fun q ⟨rn,n,len0,j0,r,n_2,s⟩ hc R K=>by
  obtain⟨h1,h2,h3,h4,h5⟩:=c_lp7_iff.1 hc;dsimp only at*
  refine(xU R K q rn n ((n:Int)) ((n:Int)) r n s).trans ?_;rw[F8 n];rfl)
theorem uI:Ai Cp7 lp14.C:=lp14.ok (by kernel_rfl)
 (fun its x h hc=>by
  replace h:Vk its=some x:=h;unfold Vk at h;split at h
  ·cases h;obtain⟨h1,h2,h3,h4,h5,h6⟩:=c_lp14_iff.1 hc;dsimp only at h1 h2;subst h1 h2;rfl
  ·cases h)
 (fun x hc=>by have:=c_lp14_iff.1 hc;show x.n<18446744073709551616;omega)
 (fun q ⟨rn,n,len0,j0,r,s⟩ j hc hi R K=>by
  obtain⟨h1,h2,h3,h4,h5,h6⟩:=c_lp14_iff.1 hc;dsimp only at*
  replace hi:j<n:=hi;refine(dS R K q rn n ((n:Int)) ((j:Int)) r s).trans ?_;have k1:=h4 j hi;rw[A9,AE j,gd j n hi,Fe j n hi,FH (by omega),show(decide ((0:Int)<=0)&&decide ((0:Int)<(rn:Int)))=true by simp;omega,h6];by_cases hz:0<(s.R j 0).n
  ·have k2:=k1.2 ((s.R j 0).n-1) (by omega);unfold Wx at k2;simp only[A2]at k2;have e:lp14.bad ⟨rn,n,len0,j0,r,s⟩ j=(decide ((s.R j 0).I 0 0<0)||decide (Rt.cpC (r.I 0 0) 1 ((s.R j 0).I ((s.R j 0).n-1) 2) ((s.R j 0).I ((s.R j 0).n-1) 3)<0)):=by
    show Wj r s j=_;unfold Wj;rw[A4 (show((s.R j 0).n:Int)>0 by omega)];rfl
   rw[e,La,A4 (show((s.R j 0).n:Int)>0 by omega),show(decide ((0:Int)<=0)&&true)=true from rfl,show IntKind.i64.wrap (((s.R j 0).n:Int)-1)=(((s.R j 0).n-1:Nat):Int)from(wrap64 (by omega) (by omega)).trans (by omega),A9,AE ((s.R j 0).n-1),gd _ _ (show(s.R j 0).n-1<(s.R j 0).n by omega),k2.1.2,k2.2,show Rt.iR 1=true from rfl];rfl
  ·have e:lp14.bad ⟨rn,n,len0,j0,r,s⟩ j=false:=by
    show Wj r s j=_;unfold Wj;rw[AB (show¬((s.R j 0).n:Int)>0 by omega)];rfl
   rw[e,AB (show¬((s.R j 0).n:Int)>0 by omega)];rfl)
 (fun q ⟨rn,n,len0,j0,r,s⟩ hc R K=>by
  obtain⟨h1,h2,h3,h4,h5,h6⟩:=c_lp14_iff.1 hc;dsimp only at*
  refine(dS R K q rn n ((n:Int)) ((n:Int)) r s).trans ?_;rw[F8 n];rfl)
theorem Aes:Bi Cp7:=Aq enter mixed (fun p h=>by
 simp only[A8,A7,or_false]at h;rcases h with rfl|rfl|rfl|rfl
 ·exact vV
 ·exact vS
 ·exact uF
 ·exact vY) (fun l h=>by
 simp only[A8,A7,or_false]at h;rcases h with rfl|rfl
 ·exact Acl
 ·exact uI)
theorem Ye{l:Int}{p q:Row}(h:Tj l p q=0):1<=l∧l<=1000:=by
 unfold Tj at h;cases h1:decide (l>1000)
 ·rw[h1]at h;cases h2:decide ((p.n:Int)>40)
  ·rw[h2]at h;cases h3:decide (l<1)
   ·have:=AO h1;have:=AO h3;omega
   ·rw[h3]at h;exact absurd h (by simp)
  ·rw[h2]at h;exact absurd h (by simp)
 ·rw[h1]at h;exact absurd h (by simp)
theorem Yd{r:Row}(h:Nw r=0):1<=r.n∧r.n<=6∧(∀j,j<r.n->O8 r j=0)∧∀j,j<r.n->r.I j 0=r.I 0 0:=by
 unfold Nw at h;cases h1:decide ((r.n:Int)>6)
 ·rw[h1]at h;cases h2:(r.n:Int)==0
  ·rw[h2]at h;cases h3:Ap (fun j=>O8 r j !=0) r.n 0
   ·rw[h3]at h;cases h4:Ap (fun j=>r.I j 0 !=r.I 0 0) r.n 0
    ·have:=AO h1;have h2':¬(r.n:Int)=0:=by simpa using h2
     refine⟨by omega,by omega,fun j hj=>?_,fun j hj=>?_⟩
     ·simpa using anyF_false.1 h3 j (Nat.zero_le _) (by omega)
     ·simpa using anyF_false.1 h4 j (Nat.zero_le _) (by omega)
    ·rw[h4]at h;exact absurd h (by simp)
   ·rw[h3]at h;have:=(Po _ _ _ h3).2.1;simp only[cond_true,cond_false]at h;rw[h]at this;cases this
  ·rw[h2]at h;exact absurd h (by simp)
 ·rw[h1]at h;exact absurd h (by simp)
def Uw(r s:Row):Int:=bif Nw r !=0 then Nw r else bif (s.n:Int) !=(r.n:Int)then 2 else bif Ap (fun j=>LH s j !=0) s.n 0 then LH s (FU (fun j=>LH s j !=0) s.n 0)else bif Ap (Wj r s) s.n 0 then 2 else 0
def fH(r s:Row):Bool:=r.n<=1000000∧CkP r r.n∧s.n<=1000000∧SpP s s.n
theorem den_pro:Den Tryz.prog 32 (FPc fH Uw):=Ag Aes fun ds rs h=>by
 unfold FPc at h;split at h
 ·rename_i r s;simp only[A5,A6]at h;obtain⟨h0,rfl⟩:=h;obtain⟨g1,g2,g3,g4⟩:=AD h0;refine(up7 r s).trans ?_;refine JD (A4 ⟨by rw[wn_];exact g1,fun i hi=>g2 i hi,Nat.zero_le _⟩) ?_;rw[c_lp7_iff.2 ⟨rfl,rfl,rfl,g3,g4⟩,Aa];refine DN fun h1=>DN fun h2=>DN fun h3=>?_;have ha:Nw r=0:=by simpa using(show(Nw r !=0)=false from h1)
  obtain⟨a1,_,a3,_⟩:=Yd ha;have l1:=Ye (a3 0 (by omega));refine JD (c_lp14_iff.2 ⟨rfl,rfl,g3,g4,a1,Rt.iR_iff.2 ?_⟩) (DN fun h4=>rfl);show-9223372036854775808<=r.I 0 0∧r.I 0 0<9223372036854775808;omega
 ·cases h
end Go.Proofs.YtnljjjghpgdmoaaGreatDoor

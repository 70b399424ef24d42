/- Part of a proof of a statement of this seat. No conditions. -/
import Derived.Test.YtkcnkimndhgkgaaGreatDoorXae
import Derived.Laws.BytesString
import Derived.StillTail
set_option linter.all false
namespace Go.Ev
open Go.RowKit
section
variable{P:Program}{mem mem':List (Option Blk)}{ρ ρ':Map}{B:Nat}{w w':World}
theorem findPos_some:∀{l:List Nat}{id i:Nat},findPos l id=some i->l[i]? =some id
 |[],id,i,h=>by simp[findPos]at h
 |x::xs,id,i,h=>by
  simp only[findPos]at h;split at h
  ·rename_i hb;cases h;simp[AF hb]
  ·split at h
   ·rename_i j hj;cases h;simpa using findPos_some hj
   ·cases h
def renM(ρ:Map)(l:List Nat):Map:=fun i=>match l[i]? with|some id=>ρ id|none=>none
theorem renM_pos{l:List Nat}{id i:Nat}(h:findPos l id=some i):i<l.length∧renM ρ l i=ρ id:=by
 have h1:=findPos_some h;exact⟨(A0.1 h1).1,by simp[renM,h1]⟩
theorem ren1_V{N:Nat}{l:List Nat}{x y:Value}(h:V ρ N x y):V (renM ρ l) l.length (ren1 l x) y:=by
 cases h with
 |unk=>exact .unk
 |bool=>exact .bool
 |int=>exact .int
 |str=>exact .str
 |ptrNil=>exact .ptrNil
 |nilFunc=>exact .nilFunc
 |nilIface=>exact .nilIface
 |iface h1 h2=>exact .iface h1 h2
 |sliceNil=>exact .sliceNil
 |mapDead h1 h2=>
  simp only[ren1];split
  ·rename_i i hi;obtain⟨g1,g2⟩:=renM_pos (ρ:=ρ) hi;exact .mapDead g1 (g2.trans h2)
  ·exact .unk
 |map h1 h2=>
  simp only[ren1];split
  ·rename_i i hi;obtain⟨g1,g2⟩:=renM_pos (ρ:=ρ) hi;exact .map g1 (g2.trans h2)
  ·exact .unk
 |ptrDead h1 h2=>
  simp only[ren1];split
  ·rename_i i hi;obtain⟨g1,g2⟩:=renM_pos (ρ:=ρ) hi;exact .ptrDead g1 (g2.trans h2)
  ·exact .unk
 |sliceDead h1 h2=>
  simp only[ren1];split
  ·rename_i i hi;obtain⟨g1,g2⟩:=renM_pos (ρ:=ρ) hi;exact .sliceDead g1 (g2.trans h2)
  ·exact .unk
 |ptr h1 h2 h3=>
  simp only[ren1];split
  ·rename_i i hi;obtain⟨g1,g2⟩:=renM_pos (ρ:=ρ) hi;exact .ptr g1 (g2.trans h2) h3
  ·exact .unk
 |slice h1 h2 h3 h4 h5 h6=>
  simp only[ren1];split
  ·rename_i i hi;obtain⟨g1,g2⟩:=renM_pos (ρ:=ρ) hi;exact .slice g1 (g2.trans h2) h3 h4 h5 h6
  ·exact .unk
 |agg h1 h2=>exact .unk
 |tuple h1 h2=>exact .unk
 |@func fn xs ys us vs h1 h2 h3 h4=>
  obtain⟨xs⟩:=xs;obtain⟨us⟩:=us
  match xs,us with
  |[],[]=>
   have e1:ys= #[]:=by simpa using h1.symm
   have e2:vs= #[]:=by simpa using h3.symm
   subst e1;subst e2;exact .func rfl (fun i x y hx _=>by simp at hx) rfl (fun i x y hx _=>by simp at hx)
  |x::xs,us=>simp only[ren1];exact .unk
  |[],u::us=>simp only[ren1];exact .unk
theorem ren1s_V{N:Nat}{l:List Nat}{xs ys:Array Value}(h:∀(i:Nat)(x y:Value),xs[i]? =some x->ys[i]? =some y->V ρ N x y):∀(i:Nat)(x y:Value),((⟨xs.toList.map (ren1 l)⟩:Array Value))[i]? =some x->ys[i]? =some y->V (renM ρ l) l.length x y:=by
 intro i x y hx hy;simp only[List.getElem?_toArray,List.getElem?_map,Option.map_eq_some_iff]at hx;obtain⟨u,hu,rfl⟩:=hx;exact ren1_V (h i u y (by simpa using hu) hy)
theorem ren_V{N:Nat}{l:List Nat}{x y:Value}(h:V ρ N x y):V (renM ρ l) l.length (ren l x) y:=by
 cases h with
 |agg h1 h2=>exact .agg (by simpa using h1) (ren1s_V h2)
 |func h1 h2 h3 h4=>exact .func (by simpa using h1) (ren1s_V h2) (by simpa using h3) (ren1s_V h4)
 |unk=>exact ren1_V (N:=N) .unk
 |bool=>exact ren1_V (N:=N) .bool
 |int=>exact ren1_V (N:=N) .int
 |str=>exact ren1_V (N:=N) .str
 |ptrNil=>exact ren1_V (N:=N) .ptrNil
 |nilFunc=>exact ren1_V (N:=N) .nilFunc
 |nilIface=>exact ren1_V (N:=N) .nilIface
 |iface h1 h2=>exact .iface h1 h2
 |sliceNil=>exact ren1_V (N:=N) .sliceNil
 |mapDead h1 h2=>exact ren1_V (N:=N) (.mapDead h1 h2)
 |map h1 h2=>exact ren1_V (N:=N) (.map h1 h2)
 |ptrDead h1 h2=>exact ren1_V (N:=N) (.ptrDead h1 h2)
 |sliceDead h1 h2=>exact ren1_V (N:=N) (.sliceDead h1 h2)
 |ptr h1 h2 h3=>exact ren1_V (N:=N) (.ptr h1 h2 h3)
 |slice h1 h2 h3 h4 h5 h6=>exact ren1_V (N:=N) (.slice h1 h2 h3 h4 h5 h6)
 |tuple h1 h2=>exact ren1_V (N:=N) (.tuple h1 h2)
theorem addNew_nodup:∀(xs:List Nat){l:List Nat},l.Nodup->(addNew l xs).Nodup
 |[],l,h=>h
 |x::xs,l,h=>by
  simp only[addNew];split
  ·exact addNew_nodup xs h
  ·rename_i hc;refine addNew_nodup xs ?_;rw[List.nodup_append];refine⟨h,by simp,fun a ha b hb=>?_⟩;simp at hb;subst hb;rintro rfl;have:l.contains a=true:=by simpa using ha
   rw[this]at hc;cases hc
theorem reach_nodup:∀(n:Nat){l:List Nat},l.Nodup->(reach mem n l).Nodup
 |0,_,h=>h
 |n+1,_,h=>reach_nodup n (addNew_nodup _ h)
def renMem(mem:List (Option Blk))(l:List Nat):List (Option Blk):=l.map fun id=>(match mem[id]? with|some (some b)=>renB l b|_=>none)
theorem renMem_get{l:List Nat}{i:Nat}{b:Blk}(h:(renMem mem l)[i]? =some (some b)):∃id c,l[i]? =some id∧mem[id]? =some (some c)∧renB l c=some b:=by
 simp only[renMem,List.getElem?_map,Option.map_eq_some_iff]at h;obtain⟨id,h1,h2⟩:=h;split at h2
 ·rename_i c hc;exact⟨id,c,h1,hc,h2⟩
 ·cases h2
theorem renB_own{l:List Nat}{b c:Blk}(h:renB l b=some c):c.own=b.own:=by
 cases b with
 |bor p e j ks r=>
  simp only[renB]at h;split at h
  ·cases h;rfl
  ·cases h
 |_=>cases h;rfl
def gone(l:List Nat)(b:Option Blk):Option Blk:=match b with
 |some (.bor p e j ks r)=>(match findPos l p with|some _=>some (.bor p e j ks r)|none=>none)
 |b=>b
theorem gone_get{l:List Nat}{i:Nat}{b:Blk}(h:(mem.map (gone l))[i]? =some (some b)):mem[i]? =some (some b)∧∀p e j ks r,b=.bor p e j ks r->∃q,findPos l p=some q:=by
 rw[List.getElem?_map]at h;cases hm:mem[i]? with
 |none=>rw[hm]at h;cases h
 |some o=>
  rw[hm,Option.map_some]at h;simp only[A5]at h;unfold gone at h;split at h
  ·rename_i p e j ks r;split at h
   ·rename_i q hq;cases h;exact⟨rfl,fun p' e' j' ks' r' he=>by cases he;exact⟨q,hq⟩⟩
   ·cases h
  ·rename_i hne;subst h;exact⟨rfl,fun p e j ks r he=>absurd (by rw[he]) (hne p e j ks r)⟩
theorem gone_ren{l:List Nat}:renMem (mem.map (gone l)) l=renMem mem l:=by
 unfold renMem;refine List.map_congr_left fun id _=>?_;rw[List.getElem?_map];cases hm:mem[id]? with
 |none=>rfl
 |some o=>
  cases o with
  |none=>rfl
  |some b=>
   cases b with
   |bor p e j ks r=>
    simp only[Option.map_some,gone];cases hf:findPos l p with
    |none=>simp only[renB,hf]
    |some q=>simp only[renB,hf]
   |_=>rfl
theorem MemR.gone(h:MemR mem ρ B w)(l:List Nat):∃ρ',(∀i,Less ρ ρ' i)∧MemR (mem.map (Ev.gone l)) ρ' B w:=by
 obtain⟨ρ',h1,h2,_⟩:=h.drop (mem':=mem.map (Ev.gone l)) (by simp) (fun i b hi=>by
  obtain⟨g1,g2⟩:=gone_get hi;refine⟨g1,fun p e j ks r hb=>?_⟩;subst hb;obtain⟨L,_,hr⟩:=h.blk i _ g1;obtain⟨_,_,_,_,_,Lp,kps,rp,hh,a,q1,_⟩:=hr;rw[List.getElem?_map,q1];rfl)
 exact⟨ρ',h1,h2⟩
theorem MemR.ren(h:MemR mem ρ B w){l:List Nat}(hl:l.Nodup)(hbor:∀(id p e j:Nat)(ks:List CK)(r:Row),mem[id]? =some (some (Blk.bor p e j ks r))->∃q,findPos l p=some q):MemR (renMem mem l) (renM ρ l) B w:=by
 have hown:∀(i b:Nat),Owned (renMem mem l) (renM ρ l) i b->∃id,l[i]? =some id∧Owned mem ρ id b:=by
  intro i b ⟨L,blk,g1,g3,g4,g2⟩;obtain⟨id,c,h1,h2,h3⟩:=renMem_get g3;simp only[renM,h1]at g1;exact⟨id,h1,L,c,g1,h2,by rw[renB_own h3]at g4;exact g4,g2⟩
 have hok:∀b,okB mem ρ w b->okB (renMem mem l) (renM ρ l) w b:=by
  intro b ⟨h1,h2⟩;refine⟨h1,fun i hL=>?_⟩;obtain⟨id,_,h3⟩:=hown i b hL;exact h2 id h3
 refine⟨fun i b hi=>?_,fun i hi=>?_,fun i j b hi hj=>?_⟩
 ·obtain⟨id,c,h1,h2,h0⟩:=renMem_get hi;obtain⟨L,hL,hr⟩:=h.blk id c h2;refine⟨L,by simp[renM,h1,hL],?_⟩;cases c with
  |box cells=>
   cases h0;obtain⟨g1,g2,g3,g4,c,T,g5,g6,g7,g8⟩:=hr;refine⟨g1,g2,g3,g4,c,T,g5,by simpa using g6,fun j x y hx hy=>?_,g8⟩;simp only[List.getElem?_map,Option.map_eq_some_iff]at hx;obtain⟨u,hu,rfl⟩:=hx;have:=ren_V (l:=l) (g7 j u y hu hy);simpa [renMem]using this
  |row ks own r=>
   cases h0;obtain⟨g1,g2,g3,g4,g5⟩:=hr;exact⟨g1,g2,g3,fun hn=>⟨fun ho=>hok _ ((g4 hn).1 ho),(g4 hn).2.mono (fun b hb=>⟨hok b hb,rfl⟩) rfl⟩,g5⟩
  |deep ks r hh=>
   cases h0;exact hr
  |map k I Bo=>
   cases h0;exact hr
  |bor p e j ks r=>
   obtain⟨q,hq⟩:=hbor id p e j ks r h2;simp only[renB,hq]at h0;cases h0;obtain⟨k1,k2,k3,k4,k5,Lp,kps,rp,hh,a,g1,g2,g3⟩:=hr;refine⟨k1,k2,k3,k4,k5,Lp,kps,rp,hh,a,?_,?_,g3⟩
   ·simp only[renMem,List.getElem?_map,findPos_some hq,Option.map_some,g1];rfl
   ·exact(renM_pos hq).2.trans g2
 ·simp only[renM];split
  ·rename_i id hid;refine h.dead id fun b hb=>?_;have key:∃c,renB l b=some c:=by
    cases b with
    |bor p e j ks r=>
     obtain⟨q,hq⟩:=hbor id p e j ks r hb;exact⟨.bor q e j ks r,by simp only[renB,hq]⟩
    |_=>exact⟨_,rfl⟩
   obtain⟨c,hc⟩:=key;refine hi c ?_;simp[renMem,hid,hb,hc]
  ·rfl
 ·obtain⟨id,h1,h2⟩:=hown i b hi;obtain⟨jd,h3,h4⟩:=hown j b hj;have:=h.inj id jd b h2 h4;subst this;have hi':i<l.length:=(A0.1 h1).1;have hj':j<l.length:=(A0.1 h3).1;rw[AK hi']at h1;rw[AK hj']at h3;have heq:l[i]=l[j]:=(Option.some.inj h1).trans (Option.some.inj h3).symm;have hp:=List.pairwise_iff_getElem.1 hl;rcases Nat.lt_trichotomy i j with hij|hij|hij
  ·exact absurd heq (hp i j hi' hj' hij)
  ·exact hij
  ·exact absurd heq.symm (hp j i hj' hi' hij)
theorem TmpR.ren{N:Nat}{τ:List Value}{ts:Array Value}{l:List Nat}(h:TmpR ρ N τ ts):TmpR (renM ρ l) l.length (τ.map (ren l)) ts:=
 ⟨by simpa using h.1,fun t x y hx hy=>by
  simp only[List.getElem?_map,Option.map_eq_some_iff]at hx;obtain⟨u,hu,rfl⟩:=hx;exact ren_V (h.2 t u y hu hy)⟩
theorem TmpsR.ren{N:Nat}{l:List Nat}:∀{τs:List (List Value)}{ts:List (Array Value)},TmpsR ρ N τs ts->TmpsR (renM ρ l) l.length (τs.map (·.map (Ev.ren l))) ts
 |[],[],_=>trivial
 |_::_,_::_,h=>⟨h.1.ren,TmpsR.ren h.2⟩
theorem keepT_len{live:List Tmp}:∀(t:Nat)(τ:List Value),(keepT live t τ).length=τ.length
 |_,[]=>rfl
 |t,v::vs=>by simp[keepT,keepT_len (t+1) vs]
theorem keepT_get{live:List Tmp}:∀(t:Nat)(τ:List Value)(i:Nat)(x:Value),(keepT live t τ)[i]? =some x->x=unk∨τ[i]? =some x
 |_,[],i,x,h=>by simp[keepT]at h
 |t,v::vs,0,x,h=>by
  simp only[keepT,List.getElem?_cons_zero,A5]at h;split at h
  ·exact .inr (by simp[h])
  ·exact .inl h.symm
 |t,v::vs,i+1,x,h=>by
  simp only[keepT,List.getElem?_cons_succ]at h;rcases keepT_get (t+1) vs i x h with h1|h1
  ·exact .inl h1
  ·exact .inr (by simpa using h1)
theorem rowify_sound{w0:World}{a:Act}{cs:List (Array Value)}:∀(live:List Tmp){σ:St}{ρ:Map},Rel w0 σ a cs w ρ->∃ρ',Rel w0 (rowify live σ) a cs w ρ'
 |[],σ,ρ,h=>⟨ρ,h⟩
 |t::ts,σ,ρ,h=>by
  unfold rowify;split
  ·exact rowify_sound ts h
  ·split
   ·rename_i hv
    let L:Loc:=⟨0,0,(decK 40 (t/10000)).1.length,0,0,true,s0⟩
    have hm:=h.mem.alloc (L:=L) (blk:=outB (decK 40 (t/10000)).1 .nil) (Below.refl _ _) (fun _=>Loc.fresh rfl fun h=>by simp[L]at h) (outB_nil _ _ _);have hR:Rel w0 {σ with mem:=σ.mem++[some (outB (decK 40 (t/10000)).1 .nil)]} a cs w (Map.snoc ρ σ.mem.length L):=⟨h.defers,h.tmps.mono (by simp) (fun id hid=>.inl (Map.snoc_old hid)),h.saved.mono (by simp) (fun id hid=>.inl (Map.snoc_old hid)),h.below,hm⟩;have hg:=h.tmps.getD (t%10000);rw[<-getF_eq,hv]at hg;refine rowify_sound ts (ρ:=Map.snoc ρ σ.mem.length L) ⟨hR.defers,⟨by simpa using hR.tmps.1,fun u x y hx hy=>?_⟩,hR.saved,hR.below,hR.mem⟩;simp only at hx;rw[List.getElem?_set]at hx;split at hx
    ·rename_i htu;split at hx
     ·cases hx;rw[<-htu]at hy;rw[Array.getD_eq_getD_getElem?,hy]at hg;generalize y=c at hg;cases hg;exact .slice (L:=L) (by simp) Map.snoc_new (by simp[L]) (AC _) (fun h=>by omega) (fun _=>⟨by simp[L],.inl rfl⟩)
     ·cases hx
    ·exact hR.tmps.2 u x y hx hy
   ·rename_i id0 hv0;split
    ·rename_i cells hid;split
     ·rename_i hcell
      let L:Loc:=⟨0,0,(decK 40 (t/640000)).1.length,0,0,true,s0⟩
      have hm:=h.mem.alloc (L:=L) (blk:=outB (decK 40 (t/640000)).1 .nil) (Below.refl _ _) (fun _=>Loc.fresh rfl fun h=>by simp[L]at h) (outB_nil _ _ _);have hR:Rel w0 {σ with mem:=σ.mem++[some (outB (decK 40 (t/640000)).1 .nil)]} a cs w (Map.snoc ρ σ.mem.length L):=⟨h.defers,h.tmps.mono (by simp) (fun id hid=>.inl (Map.snoc_old hid)),h.saved.mono (by simp) (fun id hid=>.inl (Map.snoc_old hid)),h.below,hm⟩;obtain⟨hlt,_⟩:=A0.1 hid;have hid1:(σ.mem++[some (outB (decK 40 (t/640000)).1 .nil)])[id0]? =some (some (.box cells)):=by rw[AQ hlt];exact hid
      obtain⟨M,hM,r1,r2,r3,r4,c,T,r5,r6,r7,r8⟩:=hm.blk id0 _ hid1;have hw:=hm.write (w':=w) (blk':=.box (cells.set ((t/10000)%64) (.slice (some ⟨σ.mem.length,0,some 0⟩) 0 0))) hid1 (fun _ _ _ h=>by cases h) rfl hM r8 r4 (fun _ _=>rfl) rfl ⟨r1,r2,r3,r4,c,T,r5,by rw[List.length_set];exact r6,fun j x y hx hy=>by
       rw[List.getElem?_set]at hx;rw[List.length_set];split at hx
       ·rename_i hj;split at hx
        ·cases hx;have hold:=r7 _ _ y hcell (hj▸hy);cases hold;exact .slice (L:=L) (by simp) Map.snoc_new (by simp[L]) (AC _) (fun h=>by omega) (fun _=>⟨by simp[L],.inl rfl⟩)
        ·cases hx
       ·exact r7 j x y hx hy,r8⟩
      exact rowify_sound ts (ρ:=Map.snoc ρ σ.mem.length L) ⟨hR.defers,by simpa using hR.tmps,by simpa using hR.saved,hR.below,hw⟩
     ·exact rowify_sound ts h
    ·exact rowify_sound ts h
   ·exact rowify_sound ts h
theorem norm0_sound{w0:World}{σ:St}{a:Act}{cs:List (Array Value)}(h:Rel w0 σ a cs w ρ)(live:List Tmp):∃ρ',Rel w0 (norm0 live σ) a cs w ρ':=by
 have hk:TmpR ρ σ.mem.length (keepT live 0 σ.τ) a.tmps:=⟨by rw[keepT_len];exact h.tmps.1,fun t x y hx hy=>by
  rcases keepT_get 0 σ.τ t x hx with rfl|h1
  ·exact .unk
  ·exact h.tmps.2 t x y h1 hy⟩
 have hl:(reach σ.mem 2 (addNew [] ((keepT live 0 σ.τ).flatMap refs++σ.saved.flatMap (·.flatMap refs)))).Nodup:=reach_nodup _ (addNew_nodup _ List.nodup_nil);obtain⟨ρ0,hless,hm0⟩:=h.mem.gone (reach σ.mem 2 (addNew [] ((keepT live 0 σ.τ).flatMap refs++σ.saved.flatMap (·.flatMap refs))));have hm1:=hm0.ren hl (fun id p e j ks r hb=>(gone_get hb).2 p e j ks r rfl);rw[gone_ren]at hm1;replace hk:=hk.mono (AC _) fun id _=>hless id;have hsv:=h.saved.mono (AC _) fun id _=>hless id;refine⟨renM ρ0 _,h.defers,?_,?_,h.below,hm1⟩
 ·have:=hk.ren (l:=reach σ.mem 2 (addNew [] ((keepT live 0 σ.τ).flatMap refs++σ.saved.flatMap (·.flatMap refs))));simpa [norm0]using this
 ·have:=hsv.ren (l:=reach σ.mem 2 (addNew [] ((keepT live 0 σ.τ).flatMap refs++σ.saved.flatMap (·.flatMap refs))));simpa [norm0]using this
theorem norm_sound{w0:World}{σ:St}{a:Act}{cs:List (Array Value)}(h:Rel w0 σ a cs w ρ)(live:List Tmp):∃ρ',Rel w0 (norm live σ) a cs w ρ':=by
 obtain⟨ρ',h'⟩:=rowify_sound live h;exact norm0_sound h' live
theorem MemR.view{mem:List (Option Blk)}(h:MemR mem ρ B w){sub:List CK}{r:Row}{c:Value}(hv:(r.n=0∧∃a cap,c=.slice a 0 cap)∨∃b off cap,c=.slice (some ⟨b,off,none⟩) r.n cap∧r.n<=cap∧okB mem ρ w b∧Rds (okB mem ρ w) w sub r b off):
  ∃ρ',MemR (mem++[some (.row sub false r)]) ρ' B w∧(∀id,id<mem.length->ρ' id=ρ id)∧(∀b,okB mem ρ w b->okB (mem++[some (.row sub false r)]) ρ' w b)∧V ρ' (mem.length+1) (.slice (some ⟨mem.length,0,some 0⟩) r.n 0) c:=by
 have hok:∀(L:Loc)(b:Nat),okB mem ρ w b->okB (mem++[some (.row sub false r)]) (Map.snoc ρ mem.length L) w b:=by
  intro L b ⟨h1,h2⟩;refine⟨h1,fun id ⟨M,blk,g1,g4,g5,g2⟩=>?_⟩;rcases get_snoc g4 with⟨g6,g7⟩|⟨g6,g7⟩
  ·rw[Map.snoc_old g7]at g1;exact h2 id ⟨M,blk,g1,g6,g5,g2⟩
  ·cases g7;cases g5
 rcases hv with⟨h0,a,cap,rfl⟩|⟨b,off,cap,rfl,hc,hb,hd⟩
 ·let L:Loc:=⟨0,0,sub.length,0,0,false,s0⟩
  refine⟨Map.snoc ρ mem.length L,h.alloc (blk:=.row sub false r) (Below.refl _ _) (fun h=>by cases h) ⟨by rw[h0],rfl,(fun hf=>by cases hf),fun h=>by omega,rfl⟩,fun id hid=>Map.snoc_old hid,hok L,?_⟩;rw[h0];exact .slice (L:=L) (by omega) Map.snoc_new (by simp[L]) (Nat.zero_le _) (fun h=>by omega) (fun h=>by cases h)
 ·let L:Loc:=⟨b,off,sub.length,0,r.n,false,s0⟩
  refine⟨Map.snoc ρ mem.length L,h.alloc (blk:=.row sub false r) (Below.refl _ _) (fun h=>by cases h) ⟨rfl,rfl,(fun hf=>by cases hf),fun _=>⟨fun _=>hok L b hb,?_⟩,rfl⟩,fun id hid=>Map.snoc_old hid,hok L,?_⟩
  ·exact hd.mono (fun b' hb'=>⟨hok L b' hb',rfl⟩) rfl
  ·refine .slice (L:=L) (by omega) Map.snoc_new (by simp[L]) hc (fun h=>?_) (fun h=>by cases h);simp[Loc.adr,L]
theorem viewVals_sound{ok:Nat->Prop}{r:Row}{e:Nat}{cv:Nat->Value}:∀(ks:List CK)(j:Nat)(mem mem2:List (Option Blk))(ρ:Map)(vs:List Value),viewVals r e ks j mem=some (vs,mem2)->MemR mem ρ B w->(∀b,ok b->okB mem ρ w b)->
  (∀(i:Nat)(k:CK),ks[i]? =some k->CellR ok w k r e (j+i) (cv (j+i)))->
  ∃ρ2,MemR mem2 ρ2 B w∧mem.length<=mem2.length∧(∀id,id<mem.length->ρ2 id=ρ id)∧vs.length=ks.length∧∀(i:Nat)(x:Value),vs[i]? =some x->V ρ2 mem2.length x (cv (j+i))
 |[],j,mem,mem2,ρ,vs,h,hm,hok,hc=>by
  simp only[viewVals,A5,A6]at h;obtain⟨rfl,rfl⟩:=h;exact⟨ρ,hm,AC _,fun _ _=>rfl,rfl,fun i x hx=>by simp at hx⟩
 |k::ks,j,mem,mem2,ρ,vs,h,hm,hok,hc=>by
  have h0:CellR ok w k r e j (cv j):=hc 0 k rfl;have hs:∀(i:Nat)(k':CK),ks[i]? =some k'->CellR ok w k' r e (j+1+i) (cv (j+1+i)):=fun i k' hk=>by
   have:=hc (i+1) k' (by simpa using hk)
   rwa [show j+(i+1)=j+1+i by omega]at this
  have plain:∀(x:Value),(∀(ρ':Map)(N:Nat),V ρ' N x (cv j))->(match viewVals r e ks (j+1) mem with|some (vs,m)=>some (x::vs,m)|none=>none)=some (vs,mem2)->
    ∃ρ2,MemR mem2 ρ2 B w∧mem.length<=mem2.length∧(∀id,id<mem.length->ρ2 id=ρ id)∧vs.length=(k::ks).length∧∀(i:Nat)(x:Value),vs[i]? =some x->V ρ2 mem2.length x (cv (j+i)):=by
   intro x hx h;split at h
   ·rename_i us m hu;cases h;obtain⟨ρ2,k1,k2,k3,k4,k5⟩:=viewVals_sound ks (j+1) mem _ ρ us hu hm hok hs;refine⟨ρ2,k1,k2,k3,by simp[k4],fun i y hy=>?_⟩;cases i with
    |zero=>simp at hy;subst hy;exact hx _ _
    |succ i=>
     have:=k5 i y (by simpa using hy)
     rwa [show j+1+i=j+(i+1) by omega]at this
   ·cases h
  cases k with
  |int kd=>
   simp only[viewVals]at h;refine plain _ (fun ρ' N=>?_) h;generalize cv j=c at h0;cases h0;exact .int
  |bool=>
   simp only[viewVals]at h;refine plain _ (fun ρ' N=>?_) h;generalize cv j=c at h0;cases h0;exact .bool
  |str=>
   simp only[viewVals]at h;refine plain _ (fun ρ' N=>?_) h;generalize cv j=c at h0;cases h0;exact .str
  |slice sub=>
   simp only[viewVals]at h;split at h
   ·rename_i us m hu;cases h;have hv:((r.R e j).n=0∧∃a cap,cv j=.slice a 0 cap)∨∃b off cap,cv j=.slice (some ⟨b,off,none⟩) (r.R e j).n cap∧(r.R e j).n<=cap∧okB mem ρ w b∧Rds (okB mem ρ w) w sub (r.R e j) b off:=by
     generalize cv j=c at h0;cases h0 with
     |slice0 g=>exact .inl ⟨g,_,_,rfl⟩
     |slice g1 g2 g3 g4=>exact .inr ⟨_,_,_,by rw[g1],by rw[g1];exact g2,hok _ g3,g4.mono (fun b hb=>⟨hok b hb,rfl⟩) rfl⟩
    obtain⟨ρ1,n1,n2,n3,n4⟩:=hm.view hv;obtain⟨ρ2,k1,k2,k3,k4,k5⟩:=viewVals_sound ks (j+1) _ _ ρ1 us hu n1 (fun b hb=>n3 b (hok b hb)) hs;have hl:mem.length+1<=mem2.length:=by simpa using k2
    refine⟨ρ2,k1,by omega,fun id hid=>(k3 id (by simp;omega)).trans (n2 id hid),by simp[k4],fun i y hy=>?_⟩;cases i with
    |zero=>
     simp at hy;subst hy;exact n4.mono hl fun id hid=>.inl (k3 id (by simpa using hid))
    |succ i=>
     have:=k5 i y (by simpa using hy)
     rwa [show j+1+i=j+(i+1) by omega]at this
   ·cases h
  |other=>simp[viewVals]at h
theorem MemR.bor{mem:List (Option Blk)}(h:MemR mem ρ B w){p e j:Nat}{kps sub:List CK}{rp:Row}{hh:Option (Nat×Nat)}{Lp:Loc}{c:Value}(hp:mem[p]? =some (some (.deep kps rp hh)))(hL:ρ p=some Lp)(he:e<rp.n)(hk:kps[j]? =some (.slice sub))(hho:isHole hh e j=false)
  (hc:w.cell? ⟨Lp.b,Lp.off+e*kps.length+j,none⟩=some c) (hd:DCell B w (.slice sub) rp e j false (Lp.sub e j) c):
  ∃ρ',MemR (mem++[some (.bor p e j sub (rp.R e j))]) ρ' B w∧(∀id,id<mem.length->ρ' id=ρ id)∧V ρ' (mem.length+1) (.slice (some ⟨mem.length,0,some 0⟩) (rp.R e j).n 0) c:=by
 obtain⟨d1,d2,d3⟩:=hd;obtain⟨a,cap,rfl,g1,g2⟩:=d3 rfl;have hplt:p<mem.length:=(A0.1 hp).1;have htot:0<Lp.tot:=by
  obtain⟨M,hM,hr⟩:=h.blk p _ hp;rw[hL]at hM;cases hM;have:=hr.2.2.2.1;omega
 have key:∀(L:Loc),L.n=(rp.R e j).n->L.sz=sub.length->L.own=true->L.sub=s0->L.tot=cap->(L.tot=0∨a=some ⟨L.b,L.off,none⟩)->∃ρ',MemR (mem++[some (.bor p e j sub (rp.R e j))]) ρ' B w∧(∀id,id<mem.length->ρ' id=ρ id)∧V ρ' (mem.length+1) (.slice (some ⟨mem.length,0,some 0⟩) (rp.R e j).n 0) (.slice a (rp.R e j).n cap):=by
  intro L h1 h2 h3 h4 h5 h6;refine⟨Map.snoc ρ mem.length L,h.alloc (blk:=.bor p e j sub (rp.R e j)) (Below.refl _ _) (fun h=>by cases h) ⟨d1,h1,h2,h3,h4,Lp,kps,rp,hh,a,?_,(Map.snoc_old hplt).trans hL,he,hk,hho,rfl,htot,by rw[h5];exact hc,h6⟩,fun id hid=>Map.snoc_old hid,?_⟩
  ·rw[AQ hplt];exact hp
  ·refine .slice (L:=L) (by omega) Map.snoc_new (by omega) g1 (fun h0=>?_) (fun _=>⟨by omega,?_⟩)
   ·rcases h6 with h6|h6
    ·omega
    ·rw[h6];simp[Loc.adr]
   ·rcases h6 with h6|h6
    ·exact .inl (by omega)
    ·right;rw[h6];simp[Loc.adr]
 rcases g2 with⟨g2,_⟩|⟨b,off,c,T,_,g3,_⟩
 ·exact key ⟨0,0,sub.length,cap,(rp.R e j).n,true,s0⟩ rfl rfl rfl rfl rfl (.inl g2)
 ·exact key ⟨b,off,sub.length,cap,(rp.R e j).n,true,s0⟩ rfl rfl rfl rfl rfl (.inr g3)
theorem borVals_sound{p e:Nat}{kps:List CK}{rp:Row}{Lp:Loc}{cv:Nat->Value}(he:e<rp.n):∀(ks:List CK)(j:Nat)(mem mem2:List (Option Blk))(ρ:Map)(vs:List Value),borVals p rp e ks j mem=some (vs,mem2)->MemR mem ρ B w->mem[p]? =some (some (.deep kps rp none))->ρ p=some Lp->
  (∀(i:Nat)(k:CK),ks[i]? =some k->kps[j+i]? =some k∧w.cell? ⟨Lp.b,Lp.off+e*kps.length+(j+i),none⟩=some (cv (j+i))∧DCell B w k rp e (j+i) false (Lp.sub e (j+i)) (cv (j+i)))->
  ∃ρ2,MemR mem2 ρ2 B w∧mem.length<=mem2.length∧(∀id,id<mem.length->ρ2 id=ρ id)∧vs.length=ks.length∧∀(i:Nat)(x:Value),vs[i]? =some x->V ρ2 mem2.length x (cv (j+i))
 |[],j,mem,mem2,ρ,vs,h,hm,hp,hL,hc=>by
  simp only[borVals,A5,A6]at h;obtain⟨rfl,rfl⟩:=h;exact⟨ρ,hm,AC _,fun _ _=>rfl,rfl,fun i x hx=>by simp at hx⟩
 |k::ks,j,mem,mem2,ρ,vs,h,hm,hp,hL,hc=>by
  obtain⟨hk0,hw0,h0⟩:=hc 0 k rfl;rw[Nat.add_zero]at hk0 hw0 h0;have hs:∀(i:Nat)(k':CK),ks[i]? =some k'->kps[j+1+i]? =some k'∧w.cell? ⟨Lp.b,Lp.off+e*kps.length+(j+1+i),none⟩=some (cv (j+1+i))∧DCell B w k' rp e (j+1+i) false (Lp.sub e (j+1+i)) (cv (j+1+i)):=fun i k' hk=>by
   have:=hc (i+1) k' (by simpa using hk)
   rwa [show j+(i+1)=j+1+i by omega]at this
  have plain:∀(x:Value),(∀(ρ':Map)(N:Nat),V ρ' N x (cv j))->(match borVals p rp e ks (j+1) mem with|some (vs,m)=>some (x::vs,m)|none=>none)=some (vs,mem2)->
    ∃ρ2,MemR mem2 ρ2 B w∧mem.length<=mem2.length∧(∀id,id<mem.length->ρ2 id=ρ id)∧vs.length=(k::ks).length∧∀(i:Nat)(x:Value),vs[i]? =some x->V ρ2 mem2.length x (cv (j+i)):=by
   intro x hx h;split at h
   ·rename_i us m hu;cases h;obtain⟨ρ2,k1,k2,k3,k4,k5⟩:=borVals_sound he ks (j+1) mem _ ρ us hu hm hp hL hs;refine⟨ρ2,k1,k2,k3,by simp[k4],fun i y hy=>?_⟩;cases i with
    |zero=>simp at hy;subst hy;exact hx _ _
    |succ i=>
     have:=k5 i y (by simpa using hy)
     rwa [show j+1+i=j+(i+1) by omega]at this
   ·cases h
  cases k with
  |int kd=>
   simp only[borVals]at h;refine plain _ (fun ρ' N=>?_) h;change CellR _ _ _ _ _ _ _ at h0;generalize cv j=c at h0;cases h0;exact .int
  |bool=>
   simp only[borVals]at h;refine plain _ (fun ρ' N=>?_) h;change CellR _ _ _ _ _ _ _ at h0;generalize cv j=c at h0;cases h0;exact .bool
  |str=>
   simp only[borVals]at h;refine plain _ (fun ρ' N=>?_) h;change CellR _ _ _ _ _ _ _ at h0;generalize cv j=c at h0;cases h0;exact .str
  |slice sub=>
   simp only[borVals]at h;split at h
   ·rename_i us m hu;cases h;obtain⟨ρ1,n1,n2,n4⟩:=hm.bor hp hL he hk0 rfl hw0 h0;have hplt:p<mem.length:=(A0.1 hp).1;obtain⟨ρ2,k1,k2,k3,k4,k5⟩:=borVals_sound he ks (j+1) _ _ ρ1 us hu n1 (by rw[AQ hplt];exact hp) ((n2 p hplt).trans hL) hs;have hl:mem.length+1<=mem2.length:=by simpa using k2
    refine⟨ρ2,k1,by omega,fun id hid=>(k3 id (by simp;omega)).trans (n2 id hid),by simp[k4],fun i y hy=>?_⟩;cases i with
    |zero=>
     simp at hy;subst hy;exact n4.mono hl fun id hid=>.inl (k3 id (by simpa using hid))
    |succ i=>
     have:=k5 i y (by simpa using hy)
     rwa [show j+1+i=j+(i+1) by omega]at this
   ·cases h
  |other=>simp[borVals]at h
theorem run_eqnil{t:TypeId}{ms:Array (String×TypeId)}(ht:P.underlying t=some (.interface ms))(w:World):(Op.equal t .nilIface .nilIface).run P w=.ok true w:=by
 have h:∀d:Nat,(Op.equalIn (d+1) t .nilIface .nilIface).run P w=.ok true w:=fun d=>by simp[Op.equalIn,run_underlying ht]
 exact h 9999
theorem run_eqerr{t s:TypeId}{x:Value}{ms:Array (String×TypeId)}(ht:P.underlying t=some (.interface ms))(w:World):(Op.equal t (.iface s x) .nilIface).run P w=.ok false w:=by
 have h:∀d:Nat,(Op.equalIn (d+1) t (.iface s x) .nilIface).run P w=.ok false w:=fun d=>by simp[Op.equalIn,run_underlying ht]
 exact h 9999
theorem viewLoad_sound{mem mem1:List (Option Blk)}(hm:MemR mem ρ B w){ea:Operand->Value}{a:Act}(hE:∀x,V ρ mem.length (ea x) (a.eval x)){o:Oper}{v:Value}(h:viewLoad P mem ea o=some (v,mem1)):
  ∃cv ρ1,MemR mem1 ρ1 B w∧mem.length<=mem1.length∧(∀id,id<mem.length->ρ1 id=ρ id)∧V ρ1 mem1.length v cv∧∀w',Below w.heap.size w w'->(execOp a.eval o).run P w'=.ok (.value cv) w':=by
 unfold viewLoad at h;split at h
 ·rename_i t x ho;split at h
  ·rename_i id e j i ag hx hi hag;split at h
   ·rename_i ks own r hb;split at h
    ·rename_i hsl;simp only[A2]at hsl;have hle:=Nat.le_of_ble_eq_true hsl.2;have hvx:=hE x;rw[hx]at hvx;generalize hcx:a.eval x=cx at hvx;cases hvx with
     |ptrDead h1 h2=>exact absurd h2 (live_of hm hb)
     |ptr h1 h2 h3=>
      rename_i L;have hcell:∀i',i'<i.size->∃y,(∀k,ks[j+i']? =some k->CellR (okB mem ρ w) w k r e (j+i') y)∧∀w',Below w.heap.size w w'->w'.cell? (L.adr e (j+i'))=some y:=by
       intro i' hi';have hk:ks[j+i']? =some ks[j+i']:=AK (by omega);obtain⟨y,hy1,hy2⟩:=row_cell hm hb h2 h3 hk;exact⟨y,fun k hk'=>by rw[hk]at hk';cases hk';exact hy1,hy2⟩
      let f:Nat->Value:=fun q=>if hi':q-j<i.size then Classical.choose (hcell (q-j) hi')else undef
      have hf:∀i',i'<i.size->(∀k,ks[j+i']? =some k->CellR (okB mem ρ w) w k r e (j+i') (f (j+i')))∧∀w',Below w.heap.size w w'->w'.cell? (L.adr e (j+i'))=some (f (j+i')):=by
       intro i' hi';have:=Classical.choose_spec (hcell i' hi');have e1:j+i'-j=i':=by omega
       simp only[f,e1,hi',dif_pos];exact this
      have hrun:∀(w':World)(cv:Value),(loadVar t (L.adr e j)).run P w'=.ok cv w'->(execOp a.eval o).run P w'=.ok (.value cv) w':=by
       intro w' cv hv;simp[execOp,ho,hcx,Instr.loadAt,Instr.sureAddr,hv]
      have hcs:∀(i':Nat)(k:CK),((ks.drop j).take i.size)[i']? =some k->CellR (okB mem ρ w) w k r e (j+i') (f (j+i')):=by
       intro i' k hk;have hi':i'<i.size:=by have:=(A0.1 hk).1;simp at this;omega
       rw[take_drop_getElem? _ _ _ _ hi']at hk;exact(hf i' hi').1 k hk
      have hklen:((ks.drop j).take i.size).length=i.size:=by simp;omega
      split at h
      ·rename_i vs m hvs;cases h;obtain⟨ρ2,k1,k2,k3,k4,k5⟩:=viewVals_sound _ _ _ _ ρ vs hvs hm (fun b hb=>hb) hcs;rw[hklen]at k4;refine⟨.agg ⟨(List.range i.size).map fun i'=>f (j+i')⟩,ρ2,k1,k2,k3,.agg (by simp[k4]) fun i' p q hp hq=>?_,fun w' hw'=>hrun _ _ (run_loadVar_agg hi hag (by simp) fun i' v hv=>?_)⟩
       ·simp only[List.getElem?_toArray]at hp hq;have hi':i'<i.size:=by have:=(A0.1 hq).1;simpa using this
        simp[hi']at hq;subst hq;exact k5 i' p hp
       ·have hi':i'<i.size:=by have:=(A0.1 hv).1;simpa using this
        simp[hi']at hv;subst hv;rw[Loc.adr_add];exact(hf i' hi').2 w' hw'
      ·rename_i u m hvs;cases h;obtain⟨ρ2,k1,k2,k3,k4,k5⟩:=viewVals_sound _ _ _ _ ρ _ hvs hm (fun b hb=>hb) hcs;rw[hklen]at k4;refine⟨f (j+0),ρ2,k1,k2,k3,k5 0 v rfl,fun w' hw'=>hrun _ _ (run_loadVar_one hag ?_)⟩;exact(hf 0 (by simp at k4;omega)).2 w' hw'
      ·cases h
    ·cases h
   ·rename_i ks r hb;split at h
    ·rename_i hsl;simp only[A2]at hsl;have hle:=Nat.le_of_ble_eq_true hsl.2;have hvx:=hE x;rw[hx]at hvx;generalize hcx:a.eval x=cx at hvx;cases hvx with
     |ptrDead h1 h2=>exact absurd h2 (live_of hm hb)
     |ptr h1 h2 h3=>
      rename_i L;obtain⟨M,hM,hbr⟩:=hm.blk _ _ hb;rw[h2]at hM;cases hM;obtain⟨b1,b2,b3,b4,b5,b6,b7,b8⟩:=hbr;have he:e<r.n:=by omega
      have hcell:∀i',i'<i.size->∃y,(∀k,ks[j+i']? =some k->w.cell? ⟨L.b,L.off+e*ks.length+(j+i'),none⟩=some y∧DCell B w k r e (j+i') false (L.sub e (j+i')) y)∧∀w',Below w.heap.size w w'->w'.cell? (L.adr e (j+i'))=some y:=by
       intro i' hi';have hk:ks[j+i']? =some ks[j+i']:=AK (by omega);obtain⟨y,hy1,hy2⟩:=b6 e (j+i') _ he hk;refine⟨y,fun k hk'=>by rw[hk]at hk';cases hk';exact⟨hy1,hy2⟩,fun w' hw'=>?_⟩;have hlt:L.b<w.heap.size:=World.block_lt_of_cell? w _ hy1;rw[<-b2]at hy1;rw[show L.adr e (j+i')=(⟨L.b,L.off+e*L.sz+(j+i'),none⟩:Addr)from rfl,World.cell?_of_block (w:=w) (hw'.block _ hlt)];exact hy1
      let f:Nat->Value:=fun q=>if hi':q-j<i.size then Classical.choose (hcell (q-j) hi')else undef
      have hf:∀i',i'<i.size->(∀k,ks[j+i']? =some k->w.cell? ⟨L.b,L.off+e*ks.length+(j+i'),none⟩=some (f (j+i'))∧DCell B w k r e (j+i') false (L.sub e (j+i')) (f (j+i')))∧∀w',Below w.heap.size w w'->w'.cell? (L.adr e (j+i'))=some (f (j+i')):=by
       intro i' hi';have:=Classical.choose_spec (hcell (j+i'-j) (by omega));have e1:j+i'-j=i':=by omega
       simp only[f,e1,hi',dif_pos];have e2:=Classical.choose_spec (hcell i' hi');exact e2
      have hrun:∀(w':World)(cv:Value),(loadVar t (L.adr e j)).run P w'=.ok cv w'->(execOp a.eval o).run P w'=.ok (.value cv) w':=by
       intro w' cv hv;simp[execOp,ho,hcx,Instr.loadAt,Instr.sureAddr,hv]
      have hcs:∀(i':Nat)(k:CK),((ks.drop j).take i.size)[i']? =some k->ks[j+i']? =some k∧w.cell? ⟨L.b,L.off+e*ks.length+(j+i'),none⟩=some (f (j+i'))∧DCell B w k r e (j+i') false (L.sub e (j+i')) (f (j+i')):=by
       intro i' k hk;have hi':i'<i.size:=by have:=(A0.1 hk).1;simp at this;omega
       rw[take_drop_getElem? _ _ _ _ hi']at hk;exact⟨hk,(hf i' hi').1 k hk⟩
      have hklen:((ks.drop j).take i.size).length=i.size:=by simp;omega
      split at h
      ·rename_i vs m hvs;cases h;obtain⟨ρ2,k1,k2,k3,k4,k5⟩:=borVals_sound he _ _ _ _ ρ vs hvs hm hb h2 hcs;rw[hklen]at k4;refine⟨.agg ⟨(List.range i.size).map fun i'=>f (j+i')⟩,ρ2,k1,k2,k3,.agg (by simp[k4]) fun i' p q hp hq=>?_,fun w' hw'=>hrun _ _ (run_loadVar_agg hi hag (by simp) fun i' v hv=>?_)⟩
       ·simp only[List.getElem?_toArray]at hp hq;have hi':i'<i.size:=by have:=(A0.1 hq).1;simpa using this
        simp[hi']at hq;subst hq;exact k5 i' p hp
       ·have hi':i'<i.size:=by have:=(A0.1 hv).1;simpa using this
        simp[hi']at hv;subst hv;rw[Loc.adr_add];exact(hf i' hi').2 w' hw'
      ·rename_i u m hvs;cases h;obtain⟨ρ2,k1,k2,k3,k4,k5⟩:=borVals_sound he _ _ _ _ ρ _ hvs hm hb h2 hcs;rw[hklen]at k4;refine⟨f (j+0),ρ2,k1,k2,k3,k5 0 v rfl,fun w' hw'=>hrun _ _ (run_loadVar_one hag ?_)⟩;exact(hf 0 (by simp at k4;omega)).2 w' hw'
      ·cases h
    ·cases h
   ·cases h
  ·cases h
 ·rename_i src dst x ho;split at h
  ·rename_i el id e len hs hd hx;split at h
   ·rename_i own r hu8 hb;cases h;have hvx:=hE x;rw[hx]at hvx;generalize hcx:a.eval x=cx at hvx;have hrun:∀(w':World)(a':Option Addr)(cap:Nat)(cv:Value),cx=.slice a' len cap->(Conv.bytesToString (.slice a' len cap)).run P w'=.ok cv w'->(execOp a.eval o).run P w'=.ok (.value cv) w':=by
     intro w' a' cap cv he hv;subst he;simp only[execOp,ho,hcx,Sem.run_bind,run_convert_bytes_string w' src dst el a' len cap hs hu8 hd,hv,Result.andThen_ok,Sem.run_pure]
    cases hvx with
    |sliceDead h1 h2=>exact absurd h2 (live_of hm hb)
    |@slice _ _ _ L a' cap h1 h2 h3 h4 h5 h6=>
     refine⟨_,ρ,hm,AC _,fun _ _=>rfl,.str,fun w' hw'=>hrun w' a' cap _ rfl ?_⟩;by_cases h0:len=0
     ·subst h0;cases a' with
      |none=>rfl
      |some a'=>exact run_bytesToString w' a' 0 cap [] (run_loadCells_list (P:=P) w' a' [] (fun j v hv=>by simp at hv))
     ·rw[h5 (by omega)];have hsz:L.sz=1:=by
       obtain⟨M,hM,_,b2,_⟩:=hm.blk _ _ hb;rw[h2]at hM;cases hM;exact b2
      refine run_bytesToString w' (L.adr e 0) len cap ((List.range len).map fun i=>r.I (e+i) 0) ?_;have:=run_loadCells_list (P:=P) w' (L.adr e 0) (((List.range len).map fun i=>r.I (e+i) 0).map (Value.int .u8)) (fun j v hv=>by
       have hj:j<len:=by have:=(A0.1 hv).1;simpa using this
       simp[hj]at hv;subst hv;obtain⟨y,hy1,hy2⟩:=row_cell hm hb h2 (show e+j<L.n by omega) (j:=0) (k:=.int .u8) rfl;cases hy1;have h7:=hy2 w' hw';rw[<-h7]
       congr 1
       simp[Loc.adr,Addr.add,hsz,Nat.add_assoc])
      simpa using this
   ·cases h
  ·cases h
 ·rename_i op t x q ho;have hvx:=hE x;have hev:a.eval (.const .nilIface)=.nilIface:=rfl;split at h
  ·rename_i hu hx;cases h;rw[hx]at hvx;generalize hcx:a.eval x=cx at hvx;cases hvx;refine⟨_,ρ,hm,AC _,fun _ _=>rfl,.bool,fun w' _=>?_⟩;simp[execOp,ho,hcx,hev,eqGuard,binOp,run_eqnil hu]
  ·rename_i hu hx;cases h;rw[hx]at hvx;generalize hcx:a.eval x=cx at hvx;cases hvx;refine⟨_,ρ,hm,AC _,fun _ _=>rfl,.bool,fun w' _=>?_⟩;simp[execOp,ho,hcx,hev,eqGuard,binOp,run_eqnil hu]
  ·rename_i b hu hx;cases h;rw[hx]at hvx;generalize hcx:a.eval x=cx at hvx;cases hvx with
   |iface h1 h2=>
    refine⟨_,ρ,hm,AC _,fun _ _=>rfl,.bool,fun w' _=>?_⟩;cases b with
    |true=>
     obtain⟨t',y,rfl⟩:=h1 rfl;simp[execOp,ho,hcx,hev,eqGuard,binOp,run_eqerr hu]
    |false=>
     obtain rfl:=h2 rfl;simp[execOp,ho,hcx,hev,eqGuard,binOp,run_eqnil hu]
  ·rename_i b hu hx;cases h;rw[hx]at hvx;generalize hcx:a.eval x=cx at hvx;cases hvx with
   |iface h1 h2=>
    refine⟨_,ρ,hm,AC _,fun _ _=>rfl,.bool,fun w' _=>?_⟩;cases b with
    |true=>
     obtain⟨t',y,rfl⟩:=h1 rfl;simp[execOp,ho,hcx,hev,eqGuard,binOp,run_eqerr hu]
    |false=>
     obtain rfl:=h2 rfl;simp[execOp,ho,hcx,hev,eqGuard,binOp,run_eqnil hu]
  ·cases h
 ·cases h
theorem Rel.view{w0:World}{σ:St}{a:Act}{cs:List (Array Value)}(h:Rel w0 σ a cs w ρ){o:Oper}{v:Value}{m:List (Option Blk)}(hv:viewLoad P σ.mem (env σ.τ) o=some (v,m)):
  ∃cv ρ1,Rel w0 (({σ with mem:=m}:St).put o.dst v) (a.put o.dst cv) cs w ρ1∧∀w',Below w.heap.size w w'->(execOp a.eval o).run P w'=.ok (.value cv) w':=by
 obtain⟨cv,ρ1,k1,k2,k3,k4,k5⟩:=viewLoad_sound h.mem (fun x=>h.tmps.env x) hv;refine⟨cv,ρ1,?_,k5⟩;have h1:Rel w0 {σ with mem:=m} a cs w ρ1:=⟨h.defers,h.tmps.mono k2 fun id hid=>.inl (k3 id hid),h.saved.mono k2 fun id hid=>.inl (k3 id hid),h.below,k1⟩;exact h1.put o.dst k4
end
end Go.Ev
namespace Go.Ev
open Go
section
variable{P:Program}{ops:Array Oper}{md:Region.Mode}
theorem store_result{e:Operand->Value}{o:Oper}(h:isSt o.op=true){w w':World}{n:Next}(hr:(execOp e o).run P w=.ok n w'):n=.skip:=by
 unfold isSt at h;split at h
 ·rename_i t a x ho;simp only[execOp,ho,Sem.run_bind]at hr;generalize(Instr.storeAt t (e a) (e x)).run P w=q at hr;cases q with
  |ok u w1=>simp[Result.andThen,Sem.run_pure]at hr;exact hr.1.symm
  |halt x w1=>simp[Result.andThen]at hr
 ·cases h
theorem float_any{e:Operand->Value}{o:Oper}(h:floatB P o=true){w w1:World}{n:Next}(hr:(execOp e o).run P w=.ok n w1):(∃v,n=.value v)∧∀w',(execOp e o).run P w'=.ok n w':=by
 unfold floatB at h;split at h
 ·rename_i x ho;simp only[execOp,ho,Sem.run_pure,Result.ok.injEq]at hr⊢;exact⟨⟨_,hr.1.symm⟩,fun w'=>⟨hr.1,trivial⟩⟩
 ·rename_i x ho;simp only[execOp,ho,Sem.run_pure,Result.ok.injEq]at hr⊢;exact⟨⟨_,hr.1.symm⟩,fun w'=>⟨hr.1,trivial⟩⟩
 ·rename_i s x f ho;split at h
  ·rename_i fs hu;split at h
   ·rename_i fl hf;split at h
    ·rename_i fi hfi;have hsz:¬fi.size=0:=fun h0=>by rw[h0]at h;cases h
     have key:∀(p:Addr)(w':World),e x=.pointer (some p)->(execOp e o).run P w'=.ok (.value (.pointer (some (p.add fl.offset)))) w':=fun p w' hp=>by
      simp[execOp,ho,hp,Instr.fieldAt,run_underlying hu,hf,Instr.sureAddr,fieldPlace,run_sizeOf hfi,hsz]
     have hp:∃p,e x=.pointer (some p):=by
      generalize he:e x=y at*
      cases y with
      |pointer p=>
       cases p with
       |some p=>exact⟨p,rfl⟩
       |none=>simp[execOp,ho,he,Instr.fieldAt,run_underlying hu,hf,Instr.sureAddr,stuck]at hr
      |_=>simp[execOp,ho,he,Instr.fieldAt,run_underlying hu,hf,Instr.sureAddr,stuck]at hr
     obtain⟨p,hp⟩:=hp;rw[key p w hp]at hr;cases hr;exact⟨⟨_,rfl⟩,fun w'=>key p w' hp⟩
    ·cases h
   ·cases h
  ·cases h
 ·cases h
def stp(P:Program)(ops:Array Oper)(i:Nat)(K:Act->World->Prop)(a:Act)(w:World):Prop:=
 match(ops[i]?).any fun o=>isSt o.op with
 |true=>match ops[i]? with
  |some o=>if Region.wanted o (yielded ops a.tmps)then∃w',(execOp a.eval o).run P w=.ok .skip w'∧K (a.put o.dst undef) w' else K (a.put o.dst undef) w
  |none=>K a w
 |false=>stOp P ops w i (fun a'=>K a' w) a
theorem stp_mono{i:Nat}{K K':Act->World->Prop}{a:Act}{w:World}(h:∀a w,K a w->K' a w)(hh:stp P ops i K a w):stp P ops i K' a w:=by
 unfold stp at*
 split
 ·rename_i hs;rw[hs]at hh;simp only at hh;split
  ·rename_i o ho;simp only[ho]at hh;split
   ·rename_i hw;rw[AM hw]at hh;obtain⟨w',h1,h2⟩:=hh;exact⟨w',h1,h _ _ h2⟩
   ·rename_i hw;rw[AL hw]at hh;exact h _ _ hh
  ·rename_i ho;simp only[ho]at hh;exact h _ _ hh
 ·rename_i hs;rw[hs]at hh;exact stOp_mono (fun a'=>h a' w) hh
def wpT(P:Program)(md:Region.Mode)(ops:Array Oper)(Q:Act->World->Prop):Nat->Array Bool->Act->World->Prop
 |0,listed,a,w=>Region.ready md ops listed=[]∧Q a w
 |f+1,listed,a,w=>(Region.ready md ops listed=[]->Q a w)∧∀i∈Region.ready md ops listed,stp P ops i (wpT P md ops Q f (listed.setIfInBounds i true)) a w
theorem wpOp_of_stp{i:Nat}{K K':Act->World->Prop}{Q':Exit->Act->World->Prop}{a:Act}{w:World}(h:∀a w,K a w->K' a w)(hh:stp P ops i K a w):wpOp P ops Q' i K' a w:=by
 unfold stp at hh;split at hh
 ·split at hh
  ·rename_i o ho;unfold wpOp;simp only[ho];split
   ·rename_i hw;rw[AM hw]at hh;obtain⟨w',h1,h2⟩:=hh
    left
    unfold Oper.wp;rw[h1];exact h _ _ h2
   ·rename_i hw;rw[AL hw]at hh;exact h _ _ hh
  ·rename_i ho;unfold wpOp;simp only[ho];exact h _ _ hh
 ·exact wpOp_of_stOp (fun a'=>h a' w) hh
theorem wpAny_of_T{Q:Act->World->Prop}{Q':Exit->Act->World->Prop}(hQ:∀a w,Q a w->Q' .normal a w):∀(f:Nat)(listed:Array Bool)(a:Act)(w:World),wpT P md ops Q f listed a w->wpAny P md ops Q' f listed a w
 |0,_,_,_,h=>⟨h.1,hQ _ _ h.2⟩
 |f+1,_,_,_,h=>⟨fun h0=>hQ _ _ (h.1 h0),fun i hi=>wpOp_of_stp (wpAny_of_T hQ f _) (h.2 i hi)⟩
def YF(P:Program)(ops:Array Oper)(fl:Bool)(o:Oper)(v:Value)(a:Act)(w:World):Prop:=YieldsAt P ops w o v a∧(fl=true->∀w',YieldsAt P ops w' o v a)
theorem YF.put{fl:Bool}{oi oj:Oper}{v u:Value}{a:Act}{w w':World}(hsi:∀cs b,oi.op≠.select cs b)(h3:∀d,oj.dst=some d->d∉oi.looksAt ops)(h:YF P ops fl oi v a w)(hw:w'=w∨fl=true):YF P ops fl oi v (a.put oj.dst u) w':=by
 have e1:=execOp_put oi hsi a oj.dst u h3;have e2:=wanted_put oi a oj.dst u h3;refine⟨?_,fun hf w2=>(h.2 hf w2).of_same e1 e2⟩;rcases hw with rfl|hf
 ·exact h.1.of_same e1 e2
 ·exact(h.2 hf w').of_same e1 e2
theorem stp_put{j:Nat}{oi oj:Oper}{fl:Bool}{v:Value}(hj:ops[j]? =some oj)(hap:oi.apart ops oj=true)(hk:isSt oj.op=true->fl=true)
  (hsi:∀cs b,oi.op≠.select cs b) (hsj:∀cs b,oj.op≠.select cs b) {K:Act->World->Prop} {a:Act} {w:World} (hy:YF P ops fl oi v a w) (h:stp P ops j K (a.put oi.dst v) w):
  stp P ops j (fun a' w'=>YF P ops fl oi v a' w'∧K (a'.put oi.dst v) w') a w:=by
 obtain⟨h1,h2,h3⟩:=Oper.apart_spec hap;unfold stp at*
 split
 ·rename_i hs;rw[hs]at h;simp only[hj]at h⊢;have hf:=hk (by simpa [hj]using hs);rw[wanted_put oj a oi.dst v h1,execOp_put oj hsj a oi.dst v h1]at h;split
  ·rename_i hw;rw[AM hw]at h;obtain⟨w',h4,h5⟩:=h;exact⟨w',h4,hy.put hsi h3 (.inr hf),by rw[<-Act.put_comm a v undef h2];exact h5⟩
  ·rename_i hw;rw[AL hw]at h;exact⟨hy.put hsi h3 (.inl rfl),by rw[<-Act.put_comm a v undef h2];exact h⟩
 ·rename_i hs;rw[hs]at h;simp only at h;unfold stOp at*
  simp only[hj]at*
  rw[wanted_put oj a oi.dst v h1]at h;split
  ·rename_i hw;rw[AM hw]at h;unfold Oper.still at*
   rw[execOp_put oj hsj a oi.dst v h1]at h;generalize(execOp a.eval oj).run P w=r at*
   cases r with
   |ok n w'=>
    cases n<;>simp only[Oper.stillUpon]at h⊢
    case value u=>exact⟨h.1,hy.put hsi h3 (.inl rfl),by rw[<-Act.put_comm a v u h2];exact h.2⟩
    case skip=>exact⟨h.1,hy.put hsi h3 (.inl rfl),by rw[<-Act.put_comm a v undef h2];exact h.2⟩
    case enter f args=>
     obtain⟨hw',u,hc,hn⟩:=h;exact⟨hw',u,hc,hy.put hsi h3 (.inl rfl),by rw[<-Act.put_comm a v u h2];exact hn⟩
   |halt x w'=>simp only[Oper.stillUpon]at h
  ·rename_i hw;rw[AL hw]at h;exact⟨hy.put hsi h3 (.inl rfl),by rw[<-Act.put_comm a v undef h2];exact h⟩
def Clo(md:Region.Mode)(ops:Array Oper)(listed:Array Bool):Prop:=∀j oj,ops[j]? =some oj->listed.getD j false=true->∀e∈oj.after,Region.binds md e=true->listed.getD e.on false=true
theorem Clo.set{i:Nat}{listed:Array Bool}(inv:Clo md ops listed)(hi:i∈Region.ready md ops listed):Clo md ops (listed.setIfInBounds i true):=fun j oj hj hl e he hb=>by
 obtain⟨_,oi,hoi,hall⟩:=mem_ready.1 hi;by_cases hij:i=j
 ·subst hij;have:oj=oi:=Option.some.inj (hj.symm.trans hoi);subst this;exact getD_set_true (hall e he hb)
 ·rw[getD_set_ne false hij]at hl;exact getD_set_true (inv j oj hj hl e he hb)
theorem Clo.none:Clo md ops (Array.replicate ops.size false):=fun j oj _ hl=>by rw[getD_replicate_false]at hl;cases hl
theorem waits_un{listed:Array Bool}{i:Nat}(inv:Clo md ops listed)(hun:listed.getD i true=false):∀(n j:Nat),waitsT md ops n j i=true->listed.getD j false=false∧j∉Region.ready md ops listed
 |0,j,h=>by cases h
 |n+1,j,h=>by
  have key:∀m,listed.getD m false=false->Region.waitsFor md ops j m=true->listed.getD j false=false∧j∉Region.ready md ops listed:=fun m hm hw=>by
   obtain⟨oj,hoj,e,he,hb,hon⟩:=Region.waitsFor_spec hw;constructor
   ·cases hl:listed.getD j false with
    |false=>rfl
    |true=>
     have:=inv j oj hoj hl e he hb;rw[hon,hm]at this;cases this
   ·intro hr;obtain⟨_,oj',hoj',hall⟩:=mem_ready.1 hr;have:oj'=oj:=Option.some.inj (hoj'.symm.trans hoj);subst this;have:=hall e he hb;rw[hon,hm]at this;cases this
  simp only[waitsT,Bool.or_eq_true,List.any_eq_true,A2]at h;rcases h with h|⟨m,_,h1,h2⟩
  ·exact key i (getD_both hun) h
  ·exact key m (waits_un inv hun n m h2).1 h1
theorem T_first{Q:Act->World->Prop}{i:Nat}{oi:Oper}{v:Value}{fl:Bool}(hi:ops[i]? =some oi)(hst:isSt oi.op=false)(hsel:∀(j:Nat)(o:Oper) cs b,ops[j]? =some o->o.op≠.select cs b):
  ∀(f:Nat)(listed:Array Bool)(a:Act)(w:World),
   Clo md ops listed->(∀j oj,ops[j]? =some oj->j≠i->listed.getD j true=false->waitsT md ops 4 j i=false->oi.apart ops oj=true∧(isSt oj.op=true->fl=true))->
   i∈Region.ready md ops listed->YF P ops fl oi v a w->wpT P md ops Q f (listed.setIfInBounds i true) (a.put oi.dst v) w->wpT P md ops Q (f+1) listed a w:=by
 have self:∀(K:Act->World->Prop)(a:Act)(w:World),YF P ops fl oi v a w->K (a.put oi.dst v) w->stp P ops i K a w:=fun K a w hy H=>by
  unfold stp;simp only[hi,Option.any_some,hst];exact hy.1.stOp hi H
 intro f
 induction f with
 |zero=>
  intro listed a w _ _ hr hy H;refine⟨fun h=>(by rw[h]at hr;cases hr),fun j hj=>?_⟩;by_cases hji:j=i
  ·subst hji;exact self _ _ _ hy H
  ·have:=ready_mono hj hji;rw[H.1]at this;cases this
 |succ f ih=>
  intro listed a w inv hfree hr hy H;have hun:=(mem_ready.1 hr).1;refine⟨fun h=>(by rw[h]at hr;cases hr),fun j hj=>?_⟩;by_cases hji:j=i
  ·subst hji;exact self _ _ _ hy H
  ·have h1:=H.2 j (ready_mono hj hji);obtain⟨hjun,oj,hoj,hall⟩:=mem_ready.1 hj;have hnot:waitsT md ops 4 j i=false:=by
    cases hw:waitsT md ops 4 j i with
    |false=>rfl
    |true=>exact absurd hj (waits_un inv hun 4 j hw).2
   obtain⟨q1,q2⟩:=hfree j oj hoj hji hjun hnot;have h2:=stp_put hoj q1 q2 (fun cs b=>hsel i oi cs b hi) (fun cs b=>hsel j oj cs b hoj) hy h1;refine stp_mono (fun a' w' h3=>ih (listed.setIfInBounds j true) a' w' (inv.set hj) (fun k ok hk hki hun2 hno=>hfree k ok hk hki ?_ hno) (ready_mono hr (Ne.symm hji)) h3.1 ?_) h2
   ·by_cases hjk:j=k
    ·subst hjk;exact hjun
    ·rw[getD_set_ne true hjk]at hun2;exact hun2
   ·rw[Array.setIfInBounds_comm _ _ hji];exact h3.2
theorem yf_of{o:Oper}{v:Value}{a:Act}{w:World}(hy:YieldsAt P ops w o v a):YF P ops (floatB P o) o v a w:=by
 refine⟨hy,fun hf w'=>?_⟩;rcases hy with⟨hw,hv|⟨hv,hu⟩|⟨f,args,hv,hc⟩⟩|⟨hw,rfl⟩
 ·exact .inl ⟨hw,.inl ((float_any hf hv).2 w')⟩
 ·obtain⟨u,hu⟩:=(float_any hf hv).1;cases hu
 ·obtain⟨u,hu⟩:=(float_any hf hv).1;cases hu
 ·exact .inr ⟨hw,rfl⟩
theorem T_heads{Q:Act->World->Prop}{Lq:Act->Prop}{g:Nat}{w:World}(hsel:∀(j:Nat)(o:Oper) cs b,ops[j]? =some o->o.op≠.select cs b):∀(hs:List Nat)(listed:Array Bool)(a:Act),Clo md ops listed->headsB P md ops hs listed=true->
  wpStill P ops w Lq (hs.filterMap (ops[·]?)) a->(∀a',Lq a'->wpT P md ops Q g (listAll hs listed) a' w)->wpT P md ops Q (hs.length+g) listed a w
 |[],listed,a,_,_,h,hL=>by rw[List.length_nil,AE];exact hL a h
 |k::ks,listed,a,inv,hB,h,hL=>by
  simp only[headsB,A2]at hB;obtain⟨⟨hr,hk⟩,hB'⟩:=hB;split at hk
  ·rename_i ok hok;simp only[A2,Bool.not_eq_true']at hk;obtain⟨hst,hp⟩:=hk;rw[List.filterMap_cons_some (by exact hok)]at h;have h':stOp P ops w k (wpStill P ops w Lq (ks.filterMap (ops[·]?))) a:=by
    unfold stOp;simp only[hok];exact h
   obtain⟨v,hy,hrest⟩:=yieldsAt_of_stOp hok h';have hr':k∈Region.ready md ops listed:=by simpa using hr
   have:=T_first (md:=md) (Q:=Q) hok hst hsel (ks.length+g) listed a w inv (fun j oj hj hjk hun hno=>by
    have h1:=List.all_eq_true.1 hp j (List.mem_range.2 (A1.1 hj).1);simp only[Bool.or_eq_true,hj,A2,Bool.not_eq_true']at h1;rcases h1 with((h1|h1)|h1)|h1
    ·exact absurd (AF h1) hjk
    ·rw[hun]at h1;cases h1
    ·rw[hno]at h1;cases h1
    ·exact⟨h1.1,fun hs=>h1.2.elim (fun h2=>by rw[hs]at h2;cases h2) id⟩) hr' (yf_of hy) (T_heads hsel ks _ _ (inv.set hr') hB' hrest hL)
   rw[List.length_cons,show ks.length+1+g=ks.length+g+1 by omega];exact this
  ·cases hk
theorem T_tails{Q:Act->World->Prop}{Q':Exit->Act->World->Prop}(hQ:∀e a w,Q' e a w->e=.normal∧Q a w):∀(ts:List Nat)(listed:Array Bool)(a:Act)(w:World),tailsB md ops ts listed=true->
  wpList P ops Q' (ts.filterMap (ops[·]?)) a w->wpT P md ops Q ts.length listed a w
 |[],listed,a,w,hB,h=>⟨by simpa [tailsB]using hB,(hQ _ _ _ h).2⟩
 |t::ts,listed,a,w,hB,h=>by
  simp only[tailsB,A2,A3]at hB;obtain⟨⟨hr,ht⟩,hB'⟩:=hB;split at ht
  ·rename_i o ho;rw[List.filterMap_cons_some (by exact ho)]at h;refine⟨fun h1=>(by rw[hr]at h1;cases h1),fun i hi=>?_⟩;rw[hr]at hi;obtain rfl:i=t:=by simpa using hi
   unfold stp;simp only[ho,Option.any_some,ht];unfold wpList at h;split
   ·rename_i hw;rw[AM hw]at h;rcases h with h|⟨_,a',w',h⟩
    ·unfold Oper.wp at h;generalize hq:(execOp a.eval o).run P w=q at h;cases q with
     |ok n w'=>
      have:=store_result ht hq;subst this;exact⟨w',rfl,T_tails hQ ts _ _ _ hB' h⟩
     |halt x w'=>
      cases x<;>simp only[Oper.upon]at h;exact absurd (hQ _ _ _ h).1 (by simp)
    ·exact absurd (hQ _ _ _ h).1 (by simp)
   ·rename_i hw;rw[AL hw]at h;exact T_tails hQ ts _ _ _ hB' h
  ·cases ht
theorem wp_region_ord{id:Nat}{Q Q':Exit->Act->World->Prop}{a:Act}{w:World}(hm:P.follows .mixedOrders=true)(hB:ordB P .any ops=true)(hQ:∀e a w,Q' e a w->e=.normal∧Q .normal a w)
  (h:wpStill P ops {w with drawn:=w.drawn+1} (fun a'=>wpList P ops Q' ((tailIx ops).filterMap (ops[·]?)) a' {w with drawn:=w.drawn+1}) ((headIx ops).filterMap (ops[·]?)) a):(Code.region id ops true).wp P Q a w:=by
 simp only[ordB,A2]at hB;obtain⟨⟨⟨hsel,hlen⟩,hh⟩,ht⟩:=hB;refine wp_region_any hm ?_;rw[<-AF hlen];refine wpAny_of_T (Q:=Q .normal) (fun _ _ h=>h) _ _ _ _ ?_;have e:Array.replicate ((headIx ops).length+(tailIx ops).length) false=Array.replicate ops.size false:=by rw[AF hlen]
 rw[e];exact T_heads (Region.noSelect_spec hsel) _ _ _ Clo.none hh h fun a' ha'=>T_tails hQ _ _ _ _ ht ha'
end
theorem defer_put(a:Act)(d:Option Tmp)(v:Value)(D:Deferred):({a.put d v with defers:=D::(a.put d v).defers}:Act)=({a with defers:=D::a.defers}:Act).put d v:=by cases d<;>rfl
theorem wpAny_monoQ{P:Program}{md:Region.Mode}{ops:Array Oper}{Q:Exit->Act->World->Prop}{Q':Exit->Act->World->Prop}(hQQ:∀e a w,Q e a w->Q' e a w):∀(f:Nat)(listed:Array Bool)(a:Act)(w:World),wpAny P md ops Q f listed a w->wpAny P md ops Q' f listed a w
 |0,_,_,_,h=>⟨h.1,hQQ _ _ _ h.2⟩
 |f+1,listed,a,w,h=>⟨fun h0=>hQQ _ _ _ (h.1 h0),fun i hi=>by
   have h1:=wpOp_mono (wpAny_monoQ hQQ f (listed.setIfInBounds i true)) (h.2 i hi);have hl:LetsOut Q->LetsOut Q':=fun⟨a,w,h⟩=>⟨a,w,hQQ _ _ _ h⟩;unfold wpOp at*
   split
   ·rename_i ho;simp only[ho]at h1;exact h1
   ·rename_i o ho;simp only[ho]at h1;split
    ·rename_i hw;rw[AM hw]at h1;rcases h1 with h1|h1
     ·left
      unfold Oper.wp at*
      generalize(execOp a.eval o).run P w=r at*
      cases r with
      |ok n w'=>
       cases n<;>simp only[Oper.upon]at h1⊢<;>first|exact h1|exact Calls.mono h1 (fun e w'' he=>by cases e<;>first|exact he|exact hQQ _ _ _ he|exact hl he)|exact Rows.mono h1 (fun _ _ he=>he)
      |halt y w'=>cases y<;>simp only[Oper.upon]at h1⊢<;>exact hQQ _ _ _ h1
     ·exact .inr ⟨h1.1,hl h1.2⟩
    ·rename_i hw;rw[AL hw]at h1;exact h1⟩
section
def WI{α:Type}(m:Sem α):Prop:=∀(P:Program)(w w1:World)(r:α),m.run P w=.ok r w1->w1=w∧∀w',m.run P w'=.ok r w'
theorem wi_pure{α:Type}(x:α):WI (pure x:Sem α):=fun P w w1 r h=>by
 simp only[Sem.run_pure,Result.ok.injEq]at h⊢;exact⟨h.2.symm,fun w'=>⟨h.1,trivial⟩⟩
theorem wi_bind{α β:Type}{x:Sem α}{f:α->Sem β}(hx:WI x)(hf:∀a,WI (f a)):WI (x>>=f):=fun P w w1 r h=>by
 simp only[Sem.run_bind]at h⊢;cases hq:x.run P w with
 |ok a w2=>
  rw[hq]at h;obtain⟨rfl,h2⟩:=hx P w w2 a hq;obtain⟨h3,h4⟩:=hf a P w2 w1 r h;exact⟨h3,fun w'=>by rw[h2 w'];exact h4 w'⟩
 |halt y w2=>rw[hq]at h;cases h
theorem wi_halt{α:Type}(y:Halt):WI (.halt y:Sem α):=fun P w w1 r h=>by cases h
theorem wi_program:WI program:=fun P w w1 r h=>by
 rw[run_program]at h;cases h;exact⟨rfl,fun w'=>run_program ..⟩
theorem wi_typeInfo(t:TypeId):WI (typeInfo t):=by
 unfold typeInfo;refine wi_bind wi_program fun p=>?_;split
 ·exact wi_pure _
 ·exact wi_halt _
theorem wi_underlying(t:TypeId):WI (underlying t):=by
 unfold underlying;refine wi_bind wi_program fun p=>?_;split
 ·exact wi_pure _
 ·exact wi_halt _
theorem wi_followBlind:∀(l:List FieldStep)(t:TypeId)(x:Option Value),WI (followBlind l t x)
 |[],_,_=>wi_pure _
 |s::rest,t,x=>by
  unfold followBlind;refine wi_bind (wi_underlying _) fun u=>?_;split
  ·split
   ·split
    ·exact wi_pure _
    ·exact wi_followBlind _ _ _
    ·exact wi_halt _
    ·exact wi_pure _
    ·refine wi_bind ?_ fun y=>wi_followBlind _ _ _;unfold part isAgg sizeOf;refine wi_bind (wi_bind (wi_underlying _) fun u=>?_) fun b=>?_
     ·split<;>exact wi_pure _
     ·split
      ·exact wi_bind (wi_bind (wi_typeInfo _) fun _=>wi_pure _) fun _=>wi_pure _
      ·split
       ·exact wi_pure _
       ·exact wi_halt _
    ·exact wi_halt _
    ·exact wi_followBlind _ _ _
   ·exact wi_halt _
  ·exact wi_halt _
theorem wi_nilAhead:∀(n:Nat)(t:TypeId)(v:Value)(name:String),WI (nilAhead n t v name)
 |0,_,_,_=>wi_pure _
 |n+1,t,v,name=>by
  unfold nilAhead;refine wi_bind (wi_typeInfo _) fun i=>?_;split
  ·refine wi_bind (wi_followBlind _ _ _) fun y=>?_;split
   ·exact wi_pure _
   ·split
    ·exact wi_nilAhead _ _ _ _
    ·exact wi_pure _
    ·exact wi_halt _
    ·exact wi_pure _
    ·exact wi_pure _
    ·refine wi_bind (wi_underlying _) fun u=>?_;split<;>exact wi_pure _
  ·exact wi_halt _
end
section
open RowKit
def WB{α:Type}(m:Sem α):Prop:=∀(P:Program)(w w1:World)(r:α),m.run P w=.ok r w1->Below w.heap.size w w1
theorem wb_wi{α:Type}{m:Sem α}(h:WI m):WB m:=fun P w w1 r hr=>by
 obtain⟨rfl,_⟩:=h P w w1 r hr;exact Below.refl _ _
theorem wb_bind{α β:Type}{x:Sem α}{f:α->Sem β}(hx:WB x)(hf:∀a,WB (f a)):WB (x>>=f):=fun P w w1 r h=>by
 simp only[Sem.run_bind]at h;cases hq:x.run P w with
 |ok a w2=>
  rw[hq]at h;exact(hx P w w2 a hq).trans ((hf a P w2 w1 r h).mono (hx P w w2 a hq).size)
 |halt y w2=>rw[hq]at h;cases h
theorem wb_newRow(t:TypeId)(cells:Array Value):WB (newRow t cells):=by
 unfold newRow;refine wb_bind (fun P w w1 r h=>?_) fun b=>wb_wi (wi_pure _);have h':Result.ok w.heap.size (w.alloc (.cells cells t))=Result.ok r w1:=h;cases h';exact(Below.refl _ _).alloc (AC _) _
theorem wi_sizeOf(t:TypeId):WI (sizeOf t):=by
 unfold sizeOf;exact wi_bind (wi_typeInfo _) fun _=>wi_pure _
theorem wi_zeroValue(t:TypeId):WI (zeroValue t):=by
 unfold zeroValue;refine wi_bind (wi_typeInfo _) fun i=>?_;split
 ·exact wi_pure _
 ·exact wi_halt _
theorem wb_buildSlice(t:TypeId)(len:Nat)(parts:Array (Nat×Value)):WB (Instr.buildSlice t len parts):=by
 unfold Instr.buildSlice;refine wb_bind (wb_wi (wi_underlying _)) fun u=>?_;split
 ·refine wb_bind (wb_wi (wi_sizeOf _)) fun size=>?_;dsimp only
  repeat' first
   |exact wb_wi (wi_halt _)
   |exact wb_wi (wi_pure _)
   |exact wb_newRow _ _
   |exact wb_wi (wi_zeroValue _)
   |split
   |refine wb_bind ?_ fun _=>?_
 ·exact wb_wi (wi_halt _)
theorem bs_below{e:Operand->Value}{o:Oper}(ho:isBs o.op=true){P:Program}{w w1:World}{n:Next}(hr:(execOp e o).run P w=.ok n w1):Below w.heap.size w w1∧∃v,n=.value v:=by
 unfold isBs at ho;split at ho
 ·rename_i t len parts hop;unfold execOp at hr;rw[hop]at hr;simp only[Sem.run_bind]at hr;cases hq:(Instr.buildSlice t len (parts.map fun x=>(x.1,e x.2))).run P w with
  |ok a w2=>
   have hq':=hq;rw[hq]at hr;simp only[Sem.run_pure]at hr;cases hr;exact⟨wb_buildSlice _ _ _ P w _ _ hq',_,rfl⟩
  |halt y w2=>rw[hq]at hr;cases hr
 ·cases ho
end
section
variable{P:Program}{ops:Array Oper}{md:Region.Mode}{Q':Exit->Act->World->Prop}
open RowKit
def YG(P:Program)(ops:Array Oper)(fl:Bool)(o:Oper)(v:Value)(a:Act)(w:World):Prop:=(∀w',Below w.heap.size w w'->YieldsAt P ops w' o v a)∧(fl=true->∀w',YieldsAt P ops w' o v a)
theorem YG.put{fl:Bool}{oi oj:Oper}{v u:Value}{a:Act}{w w':World}(hsi:∀cs b,oi.op≠.select cs b)(h3:∀d,oj.dst=some d->d∉oi.looksAt ops)(h:YG P ops fl oi v a w)(hw:Below w.heap.size w w'∨fl=true):YG P ops fl oi v (a.put oj.dst u) w':=by
 have e1:=execOp_put oi hsi a oj.dst u h3;have e2:=wanted_put oi a oj.dst u h3;refine⟨fun w2 hb=>?_,fun hf w2=>(h.2 hf w2).of_same e1 e2⟩;rcases hw with hw|hf
 ·exact(h.1 w2 (hw.trans (hb.mono hw.size))).of_same e1 e2
 ·exact(h.2 hf w2).of_same e1 e2
def wpYs(P:Program)(ops:Array Oper)(w:World)(Q:Act->Prop):List Oper->Act->Prop
 |[],a=>Q a
 |o::rest,a=>∃v,(∀w',Below w.heap.size w w'->YieldsAt P ops w' o v a)∧wpYs P ops w Q rest (a.put o.dst v)
def WV(m:Sem Next):Prop:=∀(P:Program)(w w1:World)(n:Next),m.run P w=.ok n w1->(∃v,n=.value v)∧∀w',m.run P w'=.ok n w'
theorem wv_val(v:Value):WV (pure (.value v)):=fun P w w1 n h=>by
 simp only[Sem.run_pure,Result.ok.injEq]at h⊢;exact⟨⟨_,h.1.symm⟩,fun w'=>⟨h.1,trivial⟩⟩
theorem wv_bind{α:Type}{x:Sem α}{f:α->Sem Next}(hx:WI x)(hf:∀a,WV (f a)):WV (x>>=f):=fun P w w1 r h=>by
 simp only[Sem.run_bind]at h⊢;cases hq:x.run P w with
 |ok a w2=>
  rw[hq]at h;obtain⟨rfl,h2⟩:=hx P w w2 a hq;obtain⟨h3,h4⟩:=hf a P w2 w1 r h;exact⟨h3,fun w'=>by rw[h2 w'];exact h4 w'⟩
 |halt y w2=>rw[hq]at h;cases h
theorem wv_halt(y:Halt):WV (.halt y:Sem Next):=fun P w w1 r h=>by cases h
theorem wv_panic:WV (runtimePanic .nilDeref):=by
 unfold runtimePanic;refine wv_bind wi_program fun p=>?_;exact wv_halt _
theorem wv_nil{e:Operand->Value}{o:Oper}{x:Operand}(ho:o.op=.nilCheck x):WV (execOp e o):=by
 unfold execOp;rw[ho];simp only;split
 ·exact wv_panic
 ·exact wv_panic
 ·exact wv_panic
 ·split
  ·exact wv_panic
  ·refine wv_bind wi_program fun p=>wv_bind (wi_nilAhead _ _ _ _) fun b=>?_;split
   ·exact wv_bind (wi_halt _) fun _=>wv_val _
   ·exact wv_val _
  ·exact wv_val _
 ·exact wv_val _
theorem floatT_any{e:Operand->Value}{o:Oper}(h:floatT P o=true){w w1:World}{n:Next}(hr:(execOp e o).run P w=.ok n w1):(∃v,n=.value v)∧∀w',(execOp e o).run P w'=.ok n w':=by
 unfold floatT at h;rw[Bool.or_eq_true]at h;rcases h with h|h
 ·exact float_any h hr
 ·split at h
  ·rename_i x ho;exact wv_nil ho P w w1 n hr
  ·cases h
def stpT(P:Program)(ops:Array Oper)(Q':Exit->Act->World->Prop)(i:Nat)(K:Act->World->Prop)(a:Act)(w:World):Prop:=
 match tlX ops i with
 |true=>wpOp P ops Q' i K a w
 |false=>stOp P ops w i (fun a'=>K a' w) a
theorem stpT_mono{i:Nat}{K K':Act->World->Prop}{a:Act}{w:World}(h:∀a w,K a w->K' a w)(hh:stpT P ops Q' i K a w):stpT P ops Q' i K' a w:=by
 unfold stpT at*
 split
 ·rename_i hs;rw[hs]at hh;exact wpOp_mono h hh
 ·rename_i hs;rw[hs]at hh;exact stOp_mono (fun a'=>h a' w) hh
def wpTT(P:Program)(md:Region.Mode)(ops:Array Oper)(Q':Exit->Act->World->Prop)(Q:Act->World->Prop):Nat->Array Bool->Act->World->Prop
 |0,listed,a,w=>Region.ready md ops listed=[]∧Q a w
 |f+1,listed,a,w=>(Region.ready md ops listed=[]->Q a w)∧∀i∈Region.ready md ops listed,stpT P ops Q' i (wpTT P md ops Q' Q f (listed.setIfInBounds i true)) a w
theorem wpOp_of_stpT{i:Nat}{K K':Act->World->Prop}{a:Act}{w:World}(h:∀a w,K a w->K' a w)(hh:stpT P ops Q' i K a w):wpOp P ops Q' i K' a w:=by
 unfold stpT at hh;split at hh
 ·exact wpOp_mono h hh
 ·exact wpOp_of_stOp (fun a'=>h a' w) hh
theorem wpAny_of_TT{Q:Act->World->Prop}(hQ:∀a w,Q a w->Q' .normal a w):∀(f:Nat)(listed:Array Bool)(a:Act)(w:World),wpTT P md ops Q' Q f listed a w->wpAny P md ops Q' f listed a w
 |0,_,_,_,h=>⟨h.1,hQ _ _ h.2⟩
 |f+1,_,_,_,h=>⟨fun h0=>hQ _ _ (h.1 h0),fun i hi=>wpOp_of_stpT (wpAny_of_TT hQ f _) (h.2 i hi)⟩
theorem stpT_put(hQ:∀e a w,Q' e a w->e=.normal){j:Nat}{oi oj:Oper}{fl:Bool}{v:Value}(hj:ops[j]? =some oj)(hap:oi.apart ops oj=true)(hk:tlX ops j=true->fl=true∨isBs oj.op=true)
  (hsi:∀cs b,oi.op≠.select cs b) (hsj:∀cs b,oj.op≠.select cs b) {K:Act->World->Prop} {a:Act} {w:World} (hy:YG P ops fl oi v a w) (h:stpT P ops Q' j K (a.put oi.dst v) w):
  stpT P ops Q' j (fun a' w'=>YG P ops fl oi v a' w'∧K (a'.put oi.dst v) w') a w:=by
 obtain⟨h1,h2,h3⟩:=Oper.apart_spec hap;have hnl:LetsOut Q'->False:=fun⟨_,_,h⟩=>by have:=hQ _ _ _ h;cases this
 unfold stpT at*
 split
 ·rename_i hs;rw[hs]at h;have hf:=hk hs;simp only at h;unfold wpOp at*
  simp only[hj]at*
  rw[wanted_put oj a oi.dst v h1]at h;split
  ·rename_i hw;rw[AM hw]at h;rcases h with h|h
   ·left
    unfold Oper.wp at*
    rw[execOp_put oj hsj a oi.dst v h1]at h;have hYf:fl=true->∀(u:Value)(w':World),YG P ops fl oi v (a.put oj.dst u) w':=fun hf u w'=>hy.put hsi h3 (.inr hf);have hYv:∀(x:Value)(w':World),(execOp a.eval oj).run P w=.ok (.value x) w'->∀u,YG P ops fl oi v (a.put oj.dst u) w':=fun x w' hr u=>by
     rcases hf with hf|hf
     ·exact hYf hf u w'
     ·exact hy.put hsi h3 (.inl (bs_below hf hr).1)
    have hYo:∀(n:Next)(w':World),(execOp a.eval oj).run P w=.ok n w'->(∀x,n≠.value x)->∀u w'',YG P ops fl oi v (a.put oj.dst u) w'':=fun n w' hr hn u w''=>by
     rcases hf with hf|hf
     ·exact hYf hf u w''
     ·obtain⟨x,hx⟩:=(bs_below hf hr).2;exact absurd hx (hn x)
    generalize(execOp a.eval oj).run P w=r at*
    cases r with
    |ok n w'=>
     cases n with
     |value u=>exact⟨hYv u w' rfl u,by rw[<-Act.put_comm a v u h2];exact h⟩
     |skip=>exact⟨hYo _ w' rfl (fun x hx=>by cases hx) undef w',by rw[<-Act.put_comm a v undef h2];exact h⟩
     |defer D=>
      have h':K (({a.put oi.dst v with defers:=D::(a.put oi.dst v).defers}:Act).put oj.dst undef) w':=h;rw[defer_put,Act.put_comm _ v undef h2]at h';refine⟨?_,h'⟩;have hq:=hYo _ w' rfl (fun x hx=>by cases hx) undef w';cases hd:oj.dst with
      |none=>rw[hd]at hq;exact hq
      |some t=>rw[hd]at hq;exact hq
     |enter f args=>
      refine Calls.mono h fun e w'' he=>?_;cases e with
      |returned u=>exact⟨hYo _ w' rfl (fun x hx=>by cases hx) u w'',by rw[<-Act.put_comm a v u h2];exact he⟩
      |panicked c=>have:=hQ _ _ _ he;cases this
      |outgrown=>exact he
     |row r args=>exact Rows.mono h fun u w'' he=>⟨hYo _ w' rfl (fun x hx=>by cases hx) u w'',by rw[<-Act.put_comm a v u h2];exact he⟩
     |_=>simp only[Oper.upon]at h
    |halt y w'=>
     cases y<;>simp only[Oper.upon]at h⊢;have:=hQ _ _ _ h;cases this
   ·exact(hnl h.2).elim
  ·rename_i hw;rw[AL hw]at h;exact⟨hy.put hsi h3 (.inl (Below.refl _ _)),by rw[<-Act.put_comm a v undef h2];exact h⟩
 ·rename_i hs;rw[hs]at h;simp only at h;unfold stOp at*
  simp only[hj]at*
  rw[wanted_put oj a oi.dst v h1]at h;split
  ·rename_i hw;rw[AM hw]at h;unfold Oper.still at*
   rw[execOp_put oj hsj a oi.dst v h1]at h;generalize(execOp a.eval oj).run P w=r at*
   cases r with
   |ok n w'=>
    cases n<;>simp only[Oper.stillUpon]at h⊢
    case value u=>exact⟨h.1,hy.put hsi h3 (.inl (Below.refl _ _)),by rw[<-Act.put_comm a v u h2];exact h.2⟩
    case skip=>exact⟨h.1,hy.put hsi h3 (.inl (Below.refl _ _)),by rw[<-Act.put_comm a v undef h2];exact h.2⟩
    case enter f args=>
     obtain⟨hw',u,hc,hn⟩:=h;exact⟨hw',u,hc,hy.put hsi h3 (.inl (Below.refl _ _)),by rw[<-Act.put_comm a v u h2];exact hn⟩
   |halt x w'=>simp only[Oper.stillUpon]at h
  ·rename_i hw;rw[AL hw]at h;exact⟨hy.put hsi h3 (.inl (Below.refl _ _)),by rw[<-Act.put_comm a v undef h2];exact h⟩
theorem TT_first(hQ:∀e a w,Q' e a w->e=.normal){Q:Act->World->Prop}{i:Nat}{oi:Oper}{v:Value}{fl:Bool}(hi:ops[i]? =some oi)(hst:tlX ops i=false)(hsel:∀(j:Nat)(o:Oper) cs b,ops[j]? =some o->o.op≠.select cs b):
  ∀(f:Nat)(listed:Array Bool)(a:Act)(w:World),
   Clo md ops listed->(∀j oj,ops[j]? =some oj->j≠i->listed.getD j true=false->waitsT md ops 8 j i=false->oi.apart ops oj=true∧(tlX ops j=true->fl=true∨isBs oj.op=true))->
   i∈Region.ready md ops listed->YG P ops fl oi v a w->wpTT P md ops Q' Q f (listed.setIfInBounds i true) (a.put oi.dst v) w->wpTT P md ops Q' Q (f+1) listed a w:=by
 have self:∀(K:Act->World->Prop)(a:Act)(w:World),YG P ops fl oi v a w->K (a.put oi.dst v) w->stpT P ops Q' i K a w:=fun K a w hy H=>by
  unfold stpT;simp only[hst];exact(hy.1 w (Below.refl _ _)).stOp hi H
 intro f
 induction f with
 |zero=>
  intro listed a w _ _ hr hy H;refine⟨fun h=>(by rw[h]at hr;cases hr),fun j hj=>?_⟩;by_cases hji:j=i
  ·subst hji;exact self _ _ _ hy H
  ·have:=ready_mono hj hji;rw[H.1]at this;cases this
 |succ f ih=>
  intro listed a w inv hfree hr hy H;have hun:=(mem_ready.1 hr).1;refine⟨fun h=>(by rw[h]at hr;cases hr),fun j hj=>?_⟩;by_cases hji:j=i
  ·subst hji;exact self _ _ _ hy H
  ·have h1:=H.2 j (ready_mono hj hji);obtain⟨hjun,oj,hoj,hall⟩:=mem_ready.1 hj;have hnot:waitsT md ops 8 j i=false:=by
    cases hw:waitsT md ops 8 j i with
    |false=>rfl
    |true=>exact absurd hj (waits_un inv hun 8 j hw).2
   obtain⟨q1,q2⟩:=hfree j oj hoj hji hjun hnot;have h2:=stpT_put hQ hoj q1 q2 (fun cs b=>hsel i oi cs b hi) (fun cs b=>hsel j oj cs b hoj) hy h1;refine stpT_mono (fun a' w' h3=>ih (listed.setIfInBounds j true) a' w' (inv.set hj) (fun k ok hk hki hun2 hno=>hfree k ok hk hki ?_ hno) (ready_mono hr (Ne.symm hji)) h3.1 ?_) h2
   ·by_cases hjk:j=k
    ·subst hjk;exact hjun
    ·rw[getD_set_ne true hjk]at hun2;exact hun2
   ·rw[Array.setIfInBounds_comm _ _ hji];exact h3.2
theorem ygT_of{o:Oper}{v:Value}{a:Act}{w:World}(hy:∀w',Below w.heap.size w w'->YieldsAt P ops w' o v a):YG P ops (floatT P o) o v a w:=by
 refine⟨hy,fun hf w'=>?_⟩;rcases hy w (Below.refl _ _)with⟨hw,hv|⟨hv,hu⟩|⟨f,args,hv,hc⟩⟩|⟨hw,rfl⟩
 ·exact .inl ⟨hw,.inl ((floatT_any hf hv).2 w')⟩
 ·obtain⟨u,hu⟩:=(floatT_any hf hv).1;cases hu
 ·obtain⟨u,hu⟩:=(floatT_any hf hv).1;cases hu
 ·exact .inr ⟨hw,rfl⟩
theorem TT_heads(hQ:∀e a w,Q' e a w->e=.normal){Q:Act->World->Prop}{Lq:Act->Prop}{g:Nat}{w:World}(hsel:∀(j:Nat)(o:Oper) cs b,ops[j]? =some o->o.op≠.select cs b):∀(hs:List Nat)(listed:Array Bool)(a:Act),Clo md ops listed->headsT P md ops hs listed=true->
  wpYs P ops w Lq (hs.filterMap (ops[·]?)) a->(∀a',Lq a'->wpTT P md ops Q' Q g (listAll hs listed) a' w)->wpTT P md ops Q' Q (hs.length+g) listed a w
 |[],listed,a,_,_,h,hL=>by rw[List.length_nil,AE];exact hL a h
 |k::ks,listed,a,inv,hB,h,hL=>by
  simp only[headsT,A2]at hB;obtain⟨⟨hr,hk⟩,hB'⟩:=hB;split at hk
  ·rename_i ok hok;simp only[A2,Bool.not_eq_true']at hk;obtain⟨hst,hp⟩:=hk;rw[List.filterMap_cons_some (by exact hok)]at h;obtain⟨v,hy,hrest⟩:=h;have hr':k∈Region.ready md ops listed:=by simpa using hr
   have:=TT_first hQ (md:=md) (Q:=Q) hok hst hsel (ks.length+g) listed a w inv (fun j oj hj hjk hun hno=>by
    have h1:=List.all_eq_true.1 hp j (List.mem_range.2 (A1.1 hj).1);simp only[Bool.or_eq_true,hj,A2,Bool.not_eq_true']at h1;rcases h1 with((h1|h1)|h1)|h1
    ·exact absurd (AF h1) hjk
    ·rw[hun]at h1;cases h1
    ·rw[hno]at h1;cases h1
    ·exact⟨h1.1,fun hs=>h1.2.elim (fun h=>h.elim (fun h2=>by rw[hs]at h2;cases h2) .inl) .inr⟩) hr' (ygT_of hy) (TT_heads hQ hsel ks _ _ (inv.set hr') hB' hrest hL)
   rw[List.length_cons,show ks.length+1+g=ks.length+g+1 by omega];exact this
  ·cases hk
theorem TT_tails{Q:Act->World->Prop}(hQ:∀e a w,Q' e a w->e=.normal∧Q a w):∀(ts:List Nat)(listed:Array Bool)(a:Act)(w:World),tailsT md ops ts listed=true->
  wpList P ops Q' (ts.filterMap (ops[·]?)) a w->wpTT P md ops Q' Q ts.length listed a w
 |[],listed,a,w,hB,h=>⟨by simpa [tailsT]using hB,(hQ _ _ _ h).2⟩
 |t::ts,listed,a,w,hB,h=>by
  simp only[tailsT,A2,A3]at hB;obtain⟨⟨hr,ht⟩,hB'⟩:=hB;obtain⟨ht0,ht⟩:=ht;cases ho:ops[t]? with
  |some o=>
   rw[List.filterMap_cons_some (by exact ho)]at h;refine⟨fun h1=>(by rw[hr]at h1;cases h1),fun i hi=>?_⟩;rw[hr]at hi;obtain rfl:i=t:=by simpa using hi
   unfold stpT;simp only[ht];have h':wpOp P ops Q' i (wpList P ops Q' (ts.filterMap (ops[·]?))) a w:=by
    unfold wpOp;simp only[ho];exact h
   exact wpOp_mono (fun a' w' h3=>TT_tails hQ ts _ _ _ hB' h3) h'
  |none=>rw[ho]at ht0;cases ht0
theorem wp_region_ordT{id:Nat}{Q:Exit->Act->World->Prop}{a:Act}{w:World}(hm:P.follows .mixedOrders=true)(hB:ordT P .any ops=true)(hQ:∀e a w,Q' e a w->e=.normal∧Q .normal a w)
  (h:wpYs P ops {w with drawn:=w.drawn+1} (fun a'=>wpList P ops Q' ((tailT ops).filterMap (ops[·]?)) a' {w with drawn:=w.drawn+1}) ((headT ops).filterMap (ops[·]?)) a):(Code.region id ops true).wp P Q a w:=by
 simp only[ordT,A2]at hB;obtain⟨⟨⟨hsel,hlen⟩,hh⟩,ht⟩:=hB;refine wp_region_any hm ?_;rw[<-AF hlen];refine wpAny_monoQ (fun e a w he=>by obtain⟨rfl,h⟩:=hQ e a w he;exact h) _ _ _ _ (wpAny_of_TT (Q':=Q') (Q:=fun a w=>Q' .normal a w) (fun _ _ h=>h) _ _ _ _ ?_);have e:Array.replicate ((headT ops).length+(tailT ops).length) false=Array.replicate ops.size false:=by rw[AF hlen]
 rw[e];exact TT_heads (fun e a w h=>(hQ e a w h).1) (Region.noSelect_spec hsel) _ _ _ Clo.none hh h fun a' ha'=>TT_tails (fun e a w h=>⟨(hQ e a w h).1,by obtain⟨rfl,_⟩:=hQ e a w h;exact h⟩) _ _ _ _ ht ha'
end
end Go.Ev

/- Part of a proof of a statement of this seat. No conditions. -/
import Derived.Test.YtkcnkimndhgkgaaGreatDoorXaf
set_option linter.all false
namespace Go.Ev
open Go Go.RowKit
inductive Ids(p:Nat->Prop):Value->Prop
 |unk{c:Option Nat}:Ids p (.chan c)
 |bool{b:Bool}:Ids p (.bool b)
 |int{k:IntKind}{n:Int}:Ids p (.int k n)
 |str{s:ByteArray}:Ids p (.string s)
 |ptrNil:Ids p (.pointer none)
 |nilFunc:Ids p .nilFunc
 |nilIface:Ids p .nilIface
 |iface{t:TypeId}{x:Value}:Ids p (.iface t x)
 |sliceNil{n c:Nat}:Ids p (.slice none n c)
 |ptr{id e:Nat}{s:Option Nat}:p id->Ids p (.pointer (some ⟨id,e,s⟩))
 |slice{id e n c:Nat}{s:Option Nat}:p id->Ids p (.slice (some ⟨id,e,s⟩) n c)
 |map{id:Nat}:p id->Ids p (.map (some id))
 |agg{xs:Array Value}:(∀(i:Nat)(x:Value),xs[i]? =some x->Ids p x)->Ids p (.agg xs)
 |tuple{xs:Array Value}:(∀(i:Nat)(x:Value),xs[i]? =some x->Ids p x)->Ids p (.tuple xs)
 |func{fn:Fn}{xs us:Array Value}:(∀(i:Nat)(x:Value),xs[i]? =some x->Ids p x)->(∀(i:Nat)(x:Value),us[i]? =some x->Ids p x)->Ids p (.func fn xs us)
theorem Ids.mono{p q:Nat->Prop}(h:∀i,p i->q i){x:Value}(hx:Ids p x):Ids q x:=by
 induction hx with
 |unk=>exact .unk
 |bool=>exact .bool
 |int=>exact .int
 |str=>exact .str
 |ptrNil=>exact .ptrNil
 |nilFunc=>exact .nilFunc
 |nilIface=>exact .nilIface
 |iface=>exact .iface
 |sliceNil=>exact .sliceNil
 |ptr h1=>exact .ptr (h _ h1)
 |slice h1=>exact .slice (h _ h1)
 |map h1=>exact .map (h _ h1)
 |agg _ ih=>exact .agg ih
 |tuple _ ih=>exact .tuple ih
 |func _ _ ih1 ih2=>exact .func ih1 ih2
theorem V.ids{ρ:Map}{N:Nat}{x y:Value}(h:V ρ N x y):Ids (fun i=>i<N) x:=by
 have key:∀{xs ys:Array Value},xs.size=ys.size->∀(i:Nat)(x:Value),xs[i]? =some x->∃y,ys[i]? =some y:=fun hs i x hx=>by
  have h1:=(A1.1 hx).1;exact⟨_,AJ (by omega)⟩
 induction h with
 |unk=>exact .unk
 |bool=>exact .bool
 |int=>exact .int
 |str=>exact .str
 |ptrNil=>exact .ptrNil
 |nilFunc=>exact .nilFunc
 |nilIface=>exact .nilIface
 |iface _ _=>exact .iface
 |sliceNil=>exact .sliceNil
 |ptrDead h1 _=>exact .ptr h1
 |sliceDead h1 _=>exact .slice h1
 |ptr h1 _ _=>exact .ptr h1
 |slice h1 _ _ _ _ _=>exact .slice h1
 |mapDead h1 _=>exact .map h1
 |map h1 _=>exact .map h1
 |agg hs _ ih=>exact .agg fun i x hx=>by obtain⟨y,hy⟩:=key hs i x hx;exact ih i x y hx hy
 |tuple hs _ ih=>exact .tuple fun i x hx=>by obtain⟨y,hy⟩:=key hs i x hx;exact ih i x y hx hy
 |func hs _ hs2 _ ih1 ih2=>exact .func (fun i x hx=>by obtain⟨y,hy⟩:=key hs i x hx;exact ih1 i x y hx hy) (fun i x hx=>by obtain⟨y,hy⟩:=key hs2 i x hx;exact ih2 i x y hx hy)
theorem V.swap{ρ ρ':Map}{N N':Nat}{x y:Value}(h:V ρ N x y)(hx:Ids (fun i=>ρ' i=ρ i∧i<N') x):V ρ' N' x y:=by
 induction h with
 |unk=>exact .unk
 |bool=>exact .bool
 |int=>exact .int
 |str=>exact .str
 |ptrNil=>exact .ptrNil
 |nilFunc=>exact .nilFunc
 |nilIface=>exact .nilIface
 |iface h1 h2=>exact .iface h1 h2
 |sliceNil=>exact .sliceNil
 |ptrDead _ h2=>cases hx with|ptr h=>exact .ptrDead h.2 (h.1.trans h2)
 |sliceDead _ h2=>cases hx with|slice h=>exact .sliceDead h.2 (h.1.trans h2)
 |ptr _ h2 h3=>cases hx with|ptr h=>exact .ptr h.2 (h.1.trans h2) h3
 |slice _ h2 h3 h4 h5 h6=>cases hx with|slice h=>exact .slice h.2 (h.1.trans h2) h3 h4 h5 h6
 |mapDead _ h2=>cases hx with|map h=>exact .mapDead h.2 (h.1.trans h2)
 |map _ h2=>cases hx with|map h=>exact .map h.2 (h.1.trans h2)
 |agg hs _ ih=>cases hx with|agg h=>exact .agg hs fun i x y h1 h2=>ih i x y h1 h2 (h i x h1)
 |tuple hs _ ih=>cases hx with|tuple h=>exact .tuple hs fun i x y h1 h2=>ih i x y h1 h2 (h i x h1)
 |func hs _ hs2 _ ih1 ih2=>cases hx with|func h h'=>exact .func hs (fun i x y h1 h2=>ih1 i x y h1 h2 (h i x h1)) hs2 (fun i x y h1 h2=>ih2 i x y h1 h2 (h' i x h1))
theorem MemR.move{mem:List (Option Blk)}{ρ:Map}{B:Nat}{w:World}{id:Nat}{blk:Blk}{L:Loc}(h:MemR (mem++[some blk]) ρ B w)(hnd:∀ks r hh,blk≠.deep ks r hh)(hid:mem[id]? =some none)(hL:ρ mem.length=some L)
  (hc:∀(i:Nat)(cells:List Value),(mem++[some blk])[i]? =some (some (Blk.box cells))->∀x∈cells,Ids (fun i=>i≠id∧i<mem.length) x):
  MemR (mem.set id (some blk)) (fun i=>if i=id then some L else if i<mem.length then ρ i else none) B w:=by
 have hlt:id<mem.length:=(A0.1 hid).1;have hnew:(mem++[some blk])[mem.length]? =some (some blk):=by simp
 have old:∀i b,(mem.set id (some blk))[i]? =some (some b)->(i=id∧b=blk)∨(i≠id∧i<mem.length∧(mem++[some blk])[i]? =some (some b)):=fun i b hb=>by
  by_cases he:i=id
  ·subst he;rw[List.getElem?_set_self hlt]at hb;cases hb;exact .inl ⟨rfl,rfl⟩
  ·rw[List.getElem?_set_ne (fun h=>he h.symm)]at hb;have:=(A0.1 hb).1;exact .inr ⟨he,this,by rw[AQ this];exact hb⟩
 have own:∀i c,Owned (mem.set id (some blk)) (fun i=>if i=id then some L else if i<mem.length then ρ i else none) i c->(i=id∧Owned (mem++[some blk]) ρ mem.length c)∨(i≠id∧i<mem.length∧Owned (mem++[some blk]) ρ i c):=fun i c ⟨M,b,h1,h3,h4,h2⟩=>by
  rcases old i b h3 with⟨h5,h6⟩|⟨h5,h6,h7⟩
  ·subst h5;subst h6;simp only[if_true]at h1;cases h1;exact .inl ⟨rfl,L,_,hL,hnew,h4,h2⟩
  ·simp only[h5,if_false,h6,if_true]at h1;exact .inr ⟨h5,h6,M,b,h1,h7,h4,h2⟩
 have hok:∀b,okB (mem++[some blk]) ρ w b->okB (mem.set id (some blk)) (fun i=>if i=id then some L else if i<mem.length then ρ i else none) w b∧w.heap[b]? =w.heap[b]? :=fun b ⟨h1,h2⟩=>by
  refine⟨⟨h1,fun i ho=>?_⟩,rfl⟩;rcases own i b ho with⟨_,h3⟩|⟨_,_,h3⟩
  ·exact h2 _ h3
  ·exact h2 _ h3
 have hblk:∀i b M,(mem++[some blk])[i]? =some (some b)->BlkR (mem++[some blk]) ρ w B M b->BlkR (mem.set id (some blk)) (fun i=>if i=id then some L else if i<mem.length then ρ i else none) w B M b:=fun i b M hb hr=>by
  cases b with
  |box cells=>
   obtain⟨h1,h2,h3,h4,c,T,h5,h6,h7,h0⟩:=hr;refine⟨h1,h2,h3,h4,c,T,h5,h6,fun j x y hx hy=>?_,h0⟩;refine(h7 j x y hx hy).swap ((hc i cells hb x (List.mem_of_getElem? hx)).mono fun i hi=>⟨?_,by rw[List.length_set];exact hi.2⟩);simp only[hi.1,if_false,hi.2,if_true]
  |row ks own r=>
   obtain⟨h1,h2,h3,h4,h0⟩:=hr;exact⟨h1,h2,h3,fun hn=>⟨fun ho=>(hok _ ((h4 hn).1 ho)).1,(h4 hn).2.mono hok rfl⟩,h0⟩
  |deep ks r hh=>exact hr
  |map k I Bo=>exact hr
  |bor p e j ks r=>
   refine BlkR.bor_same (fun p e j ks r _ kps rp hh Lp q1 q2=>?_) hr;have hpl:p<mem.length:=by
    have h1:=(A0.1 q1).1;rcases Nat.lt_or_ge p mem.length with h2|h2
    ·exact h2
    ·have h3:p=mem.length:=by simp at h1;omega
     rw[h3,hnew]at q1;cases q1;exact absurd rfl (hnd _ _ _)
   have hpi:p≠id:=by
    rintro rfl;rw[AQ hpl,hid]at q1;cases q1
   refine⟨?_,by simp only[hpi,if_false,hpl,if_true];exact q2,fun _=>rfl⟩;rw[List.getElem?_set_ne (fun h=>hpi h.symm)];rw[AQ hpl]at q1;exact q1
 refine⟨fun i b hb=>?_,fun i hi=>?_,fun i j c hi hj=>?_⟩
 ·rcases old i b hb with⟨rfl,rfl⟩|⟨h5,h6,h7⟩
  ·obtain⟨M,hM,hr⟩:=h.blk _ _ hnew;rw[hL]at hM;cases hM;exact⟨L,by simp,hblk _ _ _ hnew hr⟩
  ·obtain⟨M,hM,hr⟩:=h.blk i b h7;exact⟨M,by simp only[h5,if_false,h6,if_true];exact hM,hblk _ _ _ h7 hr⟩
 ·have hne:i≠id:=fun he=>by
   subst he;exact hi blk (by rw[List.getElem?_set_self hlt])
  simp only[hne,if_false];split
  ·rename_i hl;refine h.dead i fun b hb=>hi b ?_;rw[List.getElem?_set_ne (fun h=>hne h.symm)];rw[AQ hl]at hb;exact hb
  ·rfl
 ·rcases own i c hi with⟨e1,h1⟩|⟨e1,l1,h1⟩<;>rcases own j c hj with⟨e2,h2⟩|⟨e2,l2,h2⟩
  ·rw[e1,e2]
  ·have:=h.inj _ _ _ h1 h2;omega
  ·have:=h.inj _ _ _ h1 h2;omega
  ·exact h.inj _ _ _ h1 h2
theorem MemR.kept{mem:List (Option Blk)}{ρ:Map}{B:Nat}{w:World}(h:MemR mem ρ B w)(n:Nat):MemR (mem++List.replicate n none) ρ B w:=by
 have old:∀i (b:Blk),(mem++List.replicate n none)[i]? =some (some b)↔mem[i]? =some (some b):=fun i b=>by
  rcases Nat.lt_or_ge i mem.length with hl|hl
  ·rw[AQ hl]
  ·rw[List.getElem?_append_right hl,List.getElem?_replicate,List.getElem?_eq_none hl];split<;>simp
 have own:∀i c,Owned (mem++List.replicate n none) ρ i c↔Owned mem ρ i c:=fun i c=>by
  constructor
  ·rintro⟨M,b,h1,h3,h4⟩;exact⟨M,b,h1,(old i b).1 h3,h4⟩
  ·rintro⟨M,b,h1,h3,h4⟩;exact⟨M,b,h1,(old i b).2 h3,h4⟩
 have hok:∀b,okB mem ρ w b->okB (mem++List.replicate n none) ρ w b∧w.heap[b]? =w.heap[b]? :=fun b ⟨h1,h2⟩=>⟨⟨h1,fun i ho=>h2 i ((own i b).1 ho)⟩,rfl⟩;refine⟨fun i b hb=>?_,fun i hi=>h.dead i fun b hb=>hi b ((old i b).2 hb),fun i j c hi hj=>h.inj i j c ((own i c).1 hi) ((own j c).1 hj)⟩;obtain⟨M,hM,hr⟩:=h.blk i b ((old i b).1 hb);refine⟨M,hM,?_⟩;cases b with
 |box cells=>
  obtain⟨h1,h2,h3,h4,c,T,h5,h6,h7,h0⟩:=hr;exact⟨h1,h2,h3,h4,c,T,h5,h6,fun j x y hx hy=>(h7 j x y hx hy).mono (by simp) fun _ _=>.inl rfl,h0⟩
 |row ks own' r=>
  obtain⟨h1,h2,h3,h4,h0⟩:=hr;exact⟨h1,h2,h3,fun hn=>⟨fun ho=>(hok _ ((h4 hn).1 ho)).1,(h4 hn).2.mono hok rfl⟩,h0⟩
 |deep ks r hh=>exact hr
 |map k I Bo=>exact hr
 |bor p e j ks r=>exact BlkR.bor_same (fun p e j ks r _ kps rp hh Lp q1 q2=>⟨(old p _).2 q1,q2,fun _=>rfl⟩) hr
section
variable{P:Program}{mem:List (Option Blk)}
theorem br_bind{α β:Type}(b:Bool)(x y:Option α)(f:α->Option β):(br b x y).bind f=br b (x.bind f) (y.bind f):=by cases b<;>rfl
theorem pickN_bind{α β:Type}{n:Int}{g:Nat->Option α}(f:α->Option β):∀(m i:Nat),(pickN n g m i).bind f=pickN n (fun q=>(g q).bind f) m i
 |0,_=>rfl
 |m+1,i=>by
  show(br _ _ _).bind f=br _ _ _;rw[br_bind,pickN_bind f m]
theorem binV_bind{α:Type}(op:BinOp)(t:TypeId)(x y:Value)(k:Value->Option α):binV P op t x y k=(binV P op t x y some).bind k:=by
 unfold binV
 repeat' split
 all_goals first|rfl|(simp only[br_bind];rfl)
theorem evPure_bind{α:Type}(ρ:Operand->Value)(o:Oper)(k:Value->Option α):evPure P mem ρ o k=(evPure P mem ρ o some).bind k:=by
 unfold evPure;split
 case h_6=>exact binV_bind _ _ _ _ _
 all_goals first|rfl|(repeat' split)<;>first|rfl|(simp only[br_bind,pickN_bind];first|rfl|(congr 1;congr 1;funext q;split<;>rfl)|(congr 1;funext q;split<;>rfl))
theorem evBuild_bind{α:Type}(ρ:Operand->Value)(t:TypeId)(parts:Array (Nat×Operand))(k:Value->Option α):evBuild P ρ t parts k=(evBuild P ρ t parts some).bind k:=by
 unfold evBuild
 repeat' split
 all_goals rfl
theorem evQ_bind{α:Type}{C:Cx}{b:Bool}(ρ:Operand->Value)(o:Oper)(k:Value->Option α):evQ C b mem ρ o k=(evQ C b mem ρ o some).bind k:=by
 unfold evQ;split
 ·exact evBuild_bind _ _ _ _
 ·split
  ·split
   ·split
    ·rw[br_bind];rfl
    ·rfl
   ·split
    ·split
     ·split
      ·rw[br_bind];rfl
      ·rfl
     ·rfl
    ·rfl
  ·exact evPure_bind _ _ _
 ·exact evPure_bind _ _ _
theorem flat_hasSl:∀{ks:List CK},flat ks=true->hasSl ks=false
 |[],_=>rfl
 |.int _::ks,h=>flat_hasSl (ks:=ks) h
 |.bool::ks,h=>flat_hasSl (ks:=ks) h
 |.str::ks,h=>flat_hasSl (ks:=ks) h
 |.slice _::_,h=>by cases h
 |.other::_,h=>by cases h
theorem toD1_congr{mem mem':List (Option Blk)}{x:Value}{l:List Nat}(hl:ids1 x=some l)(h:∀id∈l,mem'[id]? =mem[id]?)(ck:CK):toD1 ck mem' x=toD1 ck mem x:=by
 unfold toD1;split
 ·rfl
 ·rename_i id e len;simp only[ids1,A5]at hl;subst hl;rw[h id (by simp)]
 ·rfl
theorem toD1s_congr{mem mem':List (Option Blk)}:∀{xs:List Value}{l:List Nat}(_:idsL xs=some l)(_:∀id∈l,mem'[id]? =mem[id]?)(cks:List CK),toD1s mem' cks xs=toD1s mem cks xs
 |[],_,_,_,_=>by unfold toD1s;rfl
 |x::xs,l,hl,h,cks=>by
  unfold idsL at hl;split at hl
  ·rename_i a b h1 h2;cases hl;unfold toD1s;rw[toD1_congr h1 (fun id hi=>h id (by simp[hi])),toD1s_congr h2 (fun id hi=>h id (by simp[hi]))]
  ·cases hl
theorem toD_congr{mem mem':List (Option Blk)}{x:Value}{l:List Nat}(hl:idsA x=some l)(h:∀id∈l,mem'[id]? =mem[id]?)(cks:List CK):toD cks mem' x=toD cks mem x:=by
 cases x with
 |agg cs=>
  simp only[toD];rw[toD1s_congr (l:=l) hl h]
 |func fn xs us=>rfl
 |_=>first|rfl|exact toD1_congr hl h _
def Same1(mem mem':List (Option Blk))(x:Value):Prop:=∃l,idsA x=some l∧∀id∈l,mem'[id]? =mem[id]?
theorem toDs_congr{mem mem':List (Option Blk)}:∀(xs:List Value)(ckss:List (List CK)),(∀x∈xs,Same1 mem mem' x)->toDs mem' ckss xs=toDs mem ckss xs
 |[],_,_=>by unfold toDs;rfl
 |x::xs,ckss,h=>by
  unfold toDs;obtain⟨l,h1,h2⟩:=h x (by simp);rw[toD_congr h1 h2,toDs_congr xs _ fun y hy=>h y (by simp[hy])]
theorem idsT_same{mem mem':List (Option Blk)}:∀{xs:List Value}{l:List Nat},idsT xs=some l->(∀id∈l,mem'[id]? =mem[id]?)->∀x∈xs,Same1 mem mem' x
 |[],_,_,_,_,h=>by cases h
 |y::ys,l,hl,h,x,hx=>by
  unfold idsT at hl;split at hl
  ·rename_i a b h1 h2;cases hl;rcases A8.1 hx with rfl|hx
   ·exact⟨a,h1,fun id hi=>h id (by simp[hi])⟩
   ·exact idsT_same h2 (fun id hi=>h id (by simp[hi])) x hx
  ·cases hl
theorem idsL_same{mem mem':List (Option Blk)}:∀{xs:List Value}{l:List Nat},idsL xs=some l->(∀id∈l,mem'[id]? =mem[id]?)->∀x∈xs,Same1 mem mem' x
 |[],_,_,_,_,h=>by cases h
 |y::ys,l,hl,h,x,hx=>by
  unfold idsL at hl;split at hl
  ·rename_i a b h1 h2;cases hl;rcases A8.1 hx with rfl|hx
   ·refine⟨a,?_,fun id hi=>h id (by simp[hi])⟩;unfold idsA;split
    ·simp[ids1]at h1
    ·rename_i fn xs us;unfold ids1 at h1;split at h1<;>first|(cases h1;done)|skip
     all_goals first|(rename_i he;cases he;done)|skip
     rename_i he;cases he;cases h1;rfl
    ·exact h1
   ·exact idsL_same h2 (fun id hi=>h id (by simp[hi])) x hx
  ·cases hl
theorem same_ptr{mem mem':List (Option Blk)}{id e:Nat}{s:Option Nat}(h:Same1 mem mem' (.pointer (some ⟨id,e,s⟩))):mem'[id]? =mem[id]? :=by
 obtain⟨l,h1,h2⟩:=h;simp only[idsA,ids1,A5]at h1;subst h1;exact h2 id (by simp)
theorem same_sl{mem mem':List (Option Blk)}{id e n c:Nat}{s:Option Nat}(h:Same1 mem mem' (.slice (some ⟨id,e,s⟩) n c)):mem'[id]? =mem[id]? :=by
 obtain⟨l,h1,h2⟩:=h;simp only[idsA,ids1,A5]at h1;subst h1;exact h2 id (by simp)
def SameR(mem mem':List (Option Blk))(ρ:Operand->Value)(op:Op):Prop:=∃l,rdsOf ρ op=some l∧∀id∈l,mem'[id]? =mem[id]?
theorem loadV_congr{mem mem':List (Option Blk)}(t:TypeId){x:Value}(h:Same1 mem mem' x):loadV P mem' t x=loadV P mem t x:=by
 unfold loadV;split
 ·rw[same_ptr h]
 ·rfl
theorem viewSl_congr{mem mem':List (Option Blk)}{f g:Operand->Value}{op:Op}{xs:List Operand}(hx:opndsC op=some xs)(h:∀x,x∈xs->f x=g x)(hr:SameR mem mem' f op):viewSl P mem' g op=viewSl P mem f op:=by
 unfold viewSl;split
 ·rename_i t a;simp only[opndsC,A5]at hx;subst hx;rw[<-h a (by simp)];obtain⟨l,h1,h2⟩:=hr;have hs:=idsT_same h1 h2 (f a) (by simp);split
  ·rename_i id e j i h3 _ _;rw[h3]at hs;rw[same_ptr hs]
  ·rfl
 ·rfl
theorem evPureC_congr{α:Type}{mem mem':List (Option Blk)}{f g:Operand->Value}{o:Oper}{xs:List Operand}(hx:opndsC o.op=some xs)(hs:isWr P o.op=false)(h:∀x,x∈xs->f x=g x)
  (hr:SameR mem mem' f o.op) (k:Value->Option α):evPure P mem' g o k=evPure P mem f o k:=by
 obtain⟨rl,hr1,hr2⟩:=hr;unfold opndsC at hx;unfold evPure;split at hx
 ·rename_i ho;cases hx;simp only[ho];rw[h _ (by simp)]
 ·rename_i ho;cases hx;simp only[ho];rw[h _ (by simp)]
 ·rename_i ho;cases hx;simp only[ho];rw[h _ (by simp),h _ (by simp),h _ (by simp)]
 ·rename_i t a ho;cases hx;simp only[ho];rw[<-h a (by simp)];rw[ho]at hr1;rw[loadV_congr t (idsT_same hr1 hr2 (f a) (by simp))]
 ·rename_i ho;cases hx;simp only[ho];rw[h _ (by simp)]
 ·rename_i ho;cases hx;simp only[ho];rw[h _ (by simp)]
 ·rename_i t x i ho;cases hx;simp only[ho];rw[<-h x (by simp),<-h i (by simp)];rw[ho]at hr1;have hs1:=idsT_same hr1 hr2 (f x) (by simp);split
  ·rename_i el id e len cap kd n _ hsl _;rw[hsl]at hs1;rw[same_sl hs1]
  ·rfl
  ·rfl
 ·rename_i ho;cases hx;simp only[ho];rw[h _ (by simp),h _ (by simp)]
 ·rename_i ho;cases hx;simp only[ho];rw[h _ (by simp),h _ (by simp)]
 ·rename_i ho;cases hx;simp only[ho];rw[h _ (by simp)]
 ·rename_i ho;cases hx;simp only[ho];rw[h _ (by simp)]
 ·rename_i ho;cases hx;simp only[ho];rw[h _ (by simp)]
 ·rename_i ho;cases hx;simp only[ho];rw[h _ (by simp)]
 ·rename_i t x lo hi mx ho;cases hx;simp only[ho];have e1:lo.map g=lo.map f:=by cases lo with|none=>rfl|some a=>simp only[Option.map_some];rw[h a (by simp)]
  have e2:hi.map g=hi.map f:=by cases hi with|none=>rfl|some a=>simp only[Option.map_some];rw[h a (by simp)]
  rw[<-h x (by simp),e1,e2];rw[ho]at hr1;have hs1:=idsT_same hr1 hr2 (f x) (by simp);split
  ·rfl
  ·rename_i el id e len _ hsl;rw[hsl]at hs1;rw[same_sl hs1]
  ·rename_i el id e len mo _ hsl;rw[hsl]at hs1;rw[same_sl hs1,h mo (by simp)]
  ·rfl
 ·rename_i ho;simp only[ho]
 ·rename_i c ho;simp only[ho];split at hx
  ·rename_i hc;simp only[hc]
  ·rename_i hc;cases hx;simp only[hc];split
   ·rename_i x hx1 hx2;rw[h x (by rw[hx2];simp)]
   ·rfl
  ·rename_i hc;cases hx;simp only[hc];rw[List.map_congr_left (f:=g) (g:=f) (l:=c.args.toList) fun a ha=>(h a ha).symm]
  ·rename_i hc;cases hx;simp only[hc];rw[List.map_congr_left (f:=g) (g:=f) (l:=c.args.toList) fun a ha=>(h a ha).symm]
  ·rename_i hc;simp only[hc]
  ·cases hx
 ·rename_i ho;simp[isWr,isSt,ho]at hs
 ·rename_i ho;simp[isWr,isMk,isMkR,ho]at hs
 ·rename_i ho;simp[isWr,isMk,isMkR,ho]at hs
 ·rename_i ho;simp[isWr,isMk,isMkR,ho]at hs
 ·rename_i ho;simp[isWr,isMk,isMkR,ho]at hs
 ·cases hx
theorem calleeOf_congr{f g:Operand->Value}{c:Call}{xs:List Operand}(hx:opndsC (.call c)=some xs)(h:∀x,x∈xs->f x=g x):calleeOf g c=calleeOf f c:=by
 unfold opndsC at hx;simp only at hx;unfold calleeOf;split at hx
 ·rename_i fo hc;cases hx;simp only[hc];rw[h fo (by simp),List.map_congr_left (f:=g) (g:=f) (l:=c.args.toList) fun a ha=>(h a (by simp[ha])).symm]
 ·rename_i hc;simp only[hc]
 ·rename_i hc;simp only[hc]
 ·rename_i hc;simp only[hc]
 ·rename_i hc;simp only[hc]
 ·cases hx
theorem callee_same{mem mem':List (Option Blk)}{f:Operand->Value}{c:Call}(hr:SameR mem mem' f (.call c)){g:FuncId}{args:List Value}(hg:calleeOf f c=some (g,args)):∀x∈args,Same1 mem mem' x:=by
 obtain⟨l,h1,h2⟩:=hr;unfold calleeOf at hg;split at hg
 ·rename_i fo hc;simp only[rdsOf,hc]at h1;split at hg
  ·rename_i g' first captured hf
   cases hg;have hall:=idsT_same h1 h2;have hfo:=hall (f fo) (by simp);rw[hf]at hfo;obtain⟨l',k1,k2⟩:=hfo;unfold idsA at k1;split at k1
   ·rename_i he;cases he
   ·rename_i he;cases he;split at k1
    ·rename_i a b q1 q2;cases k1;intro x hx;simp only[List.mem_append]at hx;rcases hx with(hx|hx)|hx
     ·exact idsL_same q1 (fun id hi=>k2 id (by simp[hi])) x hx
     ·exact hall x (by simp only[A8];exact .inr hx)
     ·exact idsL_same q2 (fun id hi=>k2 id (by simp[hi])) x hx
    ·cases k1
   ·rename_i hn;exact absurd rfl (hn _ _ _)
  ·cases hg
 ·cases hg
theorem evQ_congr{α:Type}{C:Cx}{mem mem':List (Option Blk)}{f g:Operand->Value}{o:Oper}{xs:List Operand}(hx:opndsC o.op=some xs)(hs:isWr C.P o.op=false)(h:∀x,x∈xs->f x=g x)
  (hr:SameR mem mem' f o.op) (k:Value->Option α):evQ C true mem' g o k=evQ C true mem f o k:=by
 have hp:=evPureC_congr (P:=C.P) hx hs h hr k;unfold evQ;split
 ·rename_i t parts ho;unfold opndsC at hx;rw[ho]at hx;cases hx;have:(parts.toList.map fun p=>(p.1,g p.2))=parts.toList.map fun p=>(p.1,f p.2):=List.map_congr_left fun p hp=>by rw[h p.2 (List.mem_map_of_mem hp)]
  unfold evBuild;rw[this]
 ·rename_i c ho;rw[ho]at hx hr;rw[calleeOf_congr hx h,hp];split
  ·rename_i g args hg;rw[toDs_congr args _ (callee_same hr hg)]
  ·rfl
 ·exact hp
theorem appSrc_congr{mem mem':List (Option Blk)}{x:Value}(h:Same1 mem mem' x)(ks:List CK):appSrc mem' ks x=appSrc mem ks x:=by
 unfold appSrc;split
 ·rfl
 ·rfl
 ·rw[same_sl h]
 ·rfl
theorem mkBlk_congr{C:Cx}{mem mem':List (Option Blk)}{f g:Operand->Value}{op:Op}{xs:List Operand}(hx:opndsC op=some xs)(h:∀x,x∈xs->f x=g x)(hr:SameR mem mem' f op):mkBlk C mem' g op=mkBlk C mem f op:=by
 unfold mkBlk;split
 ·rfl
 ·rename_i t x;simp only[opndsC,A5]at hx;subst hx;rw[h x (by simp)]
 ·rename_i t l c;simp only[opndsC,A5]at hx;subst hx;rw[h l (by simp),h c (by simp)]
 ·rename_i t len parts;simp only[opndsC,A5]at hx;subst hx;have e:(parts.toList.map fun p=>(p.1,g p.2))=parts.toList.map fun p=>(p.1,f p.2):=List.map_congr_left fun p hp=>by rw[h p.2 (List.mem_map_of_mem hp)]
  rw[e]
 ·rename_i c;split
  ·rename_i hc;obtain⟨l,h1,h2⟩:=hr;simp only[rdsOf,hc]at h1;have hargs:xs=c.args.toList:=by
    unfold opndsC at hx;simp only[hc,A5]at hx;exact hx.symm
   subst hargs;rw[List.map_congr_left (f:=g) (g:=f) (l:=c.args.toList) fun a ha=>(h a ha).symm];split
   ·rename_i st xt x _ hxs;simp only[appSrc_congr (idsT_same h1 h2 x (by rw[hxs];simp))]
   ·rfl
  ·rfl
  ·rw[calleeOf_congr hx h];split
   ·rename_i g args hg;rw[toDs_congr args _ (callee_same hr hg)]
   ·rfl
 ·rfl
theorem mkBlk_val{C:Cx}{mem:List (Option Blk)}{f:Operand->Value}{op:Op}{c:Bool}{b:Blk}{v:Nat->Value}(h:mkBlk C mem f op=some (c,b,v)):v=ptr0∨(∃n,v=sl0 n)∨v=fun _=>.slice none 0 0:=by
 unfold mkBlk at h
 repeat' split at h
 all_goals first|(cases h;done)|(cases h;first|exact .inl rfl|exact .inr (.inl ⟨_,rfl⟩)|exact .inr (.inr rfl))
theorem setCell1_flat{mem:List (Option Blk)}{r r1:Row}{m1:List (Option Blk)}{e j:Nat}{ck:CK}{x:Value}(hf:flat [ck]=true)(h:setCell1 [] r e j ck x=some (r1,m1)):setCell1 mem r e j ck x=some (r1,mem):=by
 unfold setCell1 at h⊢;cases ck with
 |slice sub=>cases hf
 |other=>cases hf
 |int k=>
  cases x<;>try cases h
  rename_i k' n;dsimp only at h⊢;split at h
  ·cases h;rfl
  ·cases h
 |bool=>
  cases x<;>try cases h
  rfl
 |str=>
  cases x<;>try cases h
  rfl
theorem flat_cons{ck:CK}{ks:List CK}(h:flat (ck::ks)=true):flat [ck]=true∧flat ks=true:=by
 cases ck<;>first|exact⟨rfl,h⟩|cases h
theorem setCells_flat{mem:List (Option Blk)}{e:Nat}:∀(ks:List CK)(vs:List Value)(j:Nat)(r r1:Row)(m1:List (Option Blk)),flat ks=true->setCells [] r e j ks vs=some (r1,m1)->setCells mem r e j ks vs=some (r1,mem)∧m1=[]
 |ks,[],j,r,r1,m1,hf,h=>by
  cases ks<;>(simp only[setCells,A5,A6]at h⊢;exact⟨⟨h.1,trivial⟩,h.2.symm⟩)
 |[],x::xs,j,r,r1,m1,hf,h=>by simp[setCells]at h
 |ck::ks,x::xs,j,r,r1,m1,hf,h=>by
  obtain⟨h1,h2⟩:=flat_cons hf;simp only[setCells]at h⊢;split at h
  ·rename_i r2 m2 hs;have hm:m2=[]:=by
    have:=setCell1_flat (mem:=[]) h1 hs;rw[this]at hs;cases hs;rfl
   subst hm;rw[setCell1_flat h1 hs];exact setCells_flat ks xs (j+1) r2 r1 m1 h2 h
  ·cases h
theorem litRow_flat{mem:List (Option Blk)}{ks:List CK}{n:Nat}{cells:List Value}(hf:flat ks=true):∀(m:Nat)(r r1:Row)(m1:List (Option Blk)),litRow [] ks n cells m r=some (r1,m1)->litRow mem ks n cells m r=some (r1,mem)
 |0,r,r1,m1,h=>by
  simp only[litRow,A5,A6]at h⊢;exact⟨h.1,trivial⟩
 |m+1,r,r1,m1,h=>by
  simp only[litRow]at h⊢;split at h
  ·rename_i r2 m2 hs;obtain⟨k1,k2⟩:=setCells_flat (mem:=mem) ks _ 0 r r2 m2 hf hs;subst k2;rw[k1];exact litRow_flat hf m r2 r1 m1 h
  ·cases h
theorem evEff_mk{α:Type}{C:Cx}{σ:St}{o:Oper}{inl:FuncId->List Value->St->(Value->St->Option α)->Option α}{k:St->Option α}{c:Bool}{b:Blk}{v:Nat->Value}(h:mkBlk C σ.mem (env σ.τ) o.op=some (c,b,v)):
  evEff C σ o inl k=br c (k (σ.new o.dst v b)) none:=by
 unfold mkBlk at h;unfold evEff;split at h
 ·rename_i t ho;simp only[ho];split at h
  ·rename_i z hz;split at h
   ·rename_i ha;cases h;first|rfl|(simp only[hz,ha];rfl)
   ·cases h
  ·cases h
 ·rename_i t x ho;simp only[ho];split at h
  ·rename_i hu;cases h;first|rfl|(simp only[hu];rfl)
  ·cases h
 ·rename_i t l c' ho;simp only[ho];split at h
  ·rename_i el kd l' kd' c'' h1 h2 h3;split at h
   ·rename_i ei hei;split at h
    ·rename_i z hz;split at h
     ·rename_i hh;cases h;have hh':ei.size=(kinds C.P 8 el).length∧zeroOk (kinds C.P 8 el) (lcells z)=true∧ei.bytes<=1000:=⟨hh.1,hh.2.1,hh.2.2.1⟩
      first|rw[AM hh']|(simp only[h1,h2,h3,hei,hz];rw[AM hh'])
      rw[hh.2.2.2];rfl
     ·cases h
    ·cases h
   ·cases h
  ·cases h
 ·rename_i t len parts ho;simp only[ho];split at h
  ·rename_i el hu;split at h
   ·rename_i ei hfl hei hall;split at h
    ·rename_i z hz;split at h
     ·rename_i hh;split at h
      ·rename_i cells hcells;split at h
       ·rename_i hl0;cases h;simp only[hu,hei,hall,hz];rw[AM hh];simp only[hcells,hl0];rfl
       ·rename_i hl0;split at h
        ·rename_i r m1 hl;cases h;simp only[hu,hei,hall,hz];rw[AM hh];simp only[hcells,hl0,litRow_flat hfl _ _ _ _ hl,flat_hasSl hfl];rfl
        ·cases h
      ·cases h
     ·cases h
    ·cases h
   ·cases h
  ·cases h
 ·rename_i cl ho;simp only[ho];split at h
  ·rename_i hc;split at h
   ·rename_i st xt x hat hxs;split at h
    ·rename_i el hu hsk;split at h
     ·rename_i ei hei;split at h
      ·rename_i z hz;split at h
       ·rename_i hh;split at h
        ·rename_i r2 hsrc;cases h;have ht:takeDst σ.mem (.slice none 0 0)=σ.mem:=rfl;simp only[hat,hxs,hu,hsk,hei,hz];rw[AM hh];simp only[ht,appDst,hsrc]
        ·cases h
       ·cases h
      ·cases h
     ·cases h
    ·cases h
   ·cases h
  ·cases h
  ·split at h
   ·rename_i g args hg;split at h
    ·rename_i F ds hX h1 h2 h3;split at h
     ·rename_i cnd ks r hF;split at h
      ·rename_i hfl;cases h;have hbi:∀b,cl.callee≠.builtin b:=fun b hb=>by unfold calleeOf at hg;rw[hb]at hg;cases hg
       simp only[hg,hX,h1,h2,toDsP_of h3,hF];simp only[fromDs,fromD,fromD1,outB,hfl];rfl
      ·cases h
     ·cases h
    ·cases h
   ·cases h
 ·cases h
theorem mkBlk_nc{C:Cx}{mem:List (Option Blk)}{f:Operand->Value}{op:Op}{c:Bool}{b:Blk}{g:Nat->Value}(h:mkBlk C mem f op=some (c,b,g)):¬∃s d x,op=.convert s d x:=by
 rintro⟨s,d,x,rfl⟩;simp[mkBlk]at h
theorem viewSl_load{mem:List (Option Blk)}{f:Operand->Value}{o:Oper}{b:Blk}{g:Nat->Value}(h:viewSl P mem f o.op=some (b,g)):viewLoad P mem f o=some (g mem.length,mem++[some b])∧((∃ks r,b=.row ks false r)∨∃p e j ks r,b=.bor p e j ks r)∧∃n,g=sl0 n:=by
 unfold viewSl at h;split at h
 ·rename_i t a ho;split at h
  ·rename_i id e j i h1 h2 h3;split at h
   ·rename_i ks own r hb;split at h
    ·rename_i sub hi hk;cases h;have hi1:=AF hi;have hlen:j+1<=ks.length:=by
      have:=congrArg List.length hk;simp at this;omega
     refine⟨?_,.inl ⟨_,_,rfl⟩,_,rfl⟩;unfold viewLoad;simp only[ho,h1,h2,h3,hb,hi1,hk];have hble:Nat.ble (j+1) ks.length=true:=by rw[Nat.ble_eq];exact hlen
     rw[hble];simp[hasSl,viewVals,sl0]
    ·cases h
   ·rename_i ks r hb;split at h
    ·rename_i sub hi hk;cases h;have hi1:=AF hi;have hlen:j+1<=ks.length:=by
      have:=congrArg List.length hk;simp at this;omega
     refine⟨?_,.inr ⟨_,_,_,_,_,rfl⟩,_,rfl⟩;unfold viewLoad;simp only[ho,h1,h2,h3,hb,hi1,hk];have hble:Nat.ble (j+1) ks.length=true:=by rw[Nat.ble_eq];exact hlen
     rw[hble];simp[hasSl,borVals,sl0]
    ·cases h
   ·cases h
  ·cases h
 ·cases h
theorem storeV_boxC{t:TypeId}{x v:Value}{m:List (Option Blk)}(hb:inBox mem (idOf x)=true)(h:storeV P mem t x v=some m):
  ∃c c0,m=mem.set (idOf x) (some (.box c))∧(∀mem',mem'[idOf x]? =mem[idOf x]? ->storeV P mem' t x v=some (mem'.set (idOf x) (some (.box c))))∧mem[idOf x]? =some (some (.box c0))∧∀y∈c,y∈c0∨y∈lcells v:=by
 unfold storeV at h;split at h
 ·rename_i id e j i hi hone;simp only[idOf]at hb⊢;split at h
  ·rename_i hsz;split at h
   ·rename_i cells hc;split at h
    ·rename_i hj;cases h;refine⟨_,cells,rfl,fun mem' hm=>?_,hc,fun y hy=>?_⟩
     rotate_left
     ·rcases List.mem_append.1 hy with hy|hy
      ·rcases List.mem_append.1 hy with hy|hy
       ·exact .inl (List.mem_of_mem_take hy)
       ·exact .inr hy
      ·exact .inl (List.mem_of_mem_drop hy)
     unfold storeV;simp only[hi,hone];rw[AM hsz];rw[hc]at hm;simp only[hm];rw[AM hj]
    ·cases h
   ·rename_i hr;simp[inBox,hr]at hb
   ·cases h
  ·cases h
 ·cases h
def StepW(C:Cx)(o:Oper)(v:Value)(r:Rc)(σ σ1:St):Prop:=rdsOf (env σ.τ) o.op=some r.rs∧((r.kd=0∧isWr C.P o.op=false∧evQ C true σ.mem (env σ.τ) o some=some v∧idsV v=some r.vs∧σ1=σ.put o.dst v)∨(r.kd=1∧∃t a x m,o.op=.store t a x∧r.id=idOf (env σ.τ a)∧inBox σ.mem (idOf (env σ.τ a))=true∧storeV C.P σ.mem t (env σ.τ a) (env σ.τ x)=some m∧σ1={σ with mem:=m})∨(r.kd=2∧isSt o.op=false∧∃b f,(mkBlk C σ.mem (env σ.τ) o.op=some (true,b,f)∨viewSl C.P σ.mem (env σ.τ) o.op=some (b,f))∧σ.mem[r.id]? =some none∧v=f r.id∧σ1=({σ with mem:=σ.mem.set r.id (some b)}:St).put o.dst v))
noncomputable def wantC(all:List Oper)(σ:St)(o:Oper):Option Bool:=match o.guard with
 |none=>some true
 |some (j,want)=>match(all[j]?).bind (·.dst)with
  |some t=>match getF σ.τ t with
   |.bool b=>some (b==want)
   |.tuple ⟨[]⟩=>some false
   |_=>none
  |none=>none
theorem St.put_same{σ:St}{t:Nat}{v:Value}(h:getF σ.τ t=v)(hv:v≠unk):σ.put (some t) v=σ:=by
 have h1:σ.τ[t]? =some v:=by
  rw[getF_eq,List.getD_eq_getElem?_getD]at h;cases hx:σ.τ[t]? with
  |none=>rw[hx]at h;exact absurd h.symm hv
  |some x=>rw[hx]at h;simp at h;rw[h]
 have h2:σ.τ.set t v=σ.τ:=by
  refine List.ext_getElem? fun j=>?_;by_cases hj:t=j
  ·subst hj;rw[List.getElem?_set_self (A0.1 h1).1,h1]
  ·rw[List.getElem?_set_ne hj]
 cases σ;simp only[St.put]at h2⊢;rw[h2]
theorem guardV_spec{α:Type}{all:List Oper}{σ:St}{o:Oper}{yes no:St->Option α}{r:α}(h:guardV all σ o yes no=some r):
  (wantC all σ o=some true∧yes σ=some r)∨(wantC all σ o=some false∧no σ=some r):=by
 unfold guardV at h;unfold wantC;split at h
 ·rename_i hg;rw[hg];exact .inl ⟨rfl,h⟩
 ·rename_i j want hg;rw[hg];simp only;split at h
  ·rename_i t ht;rw[ht];simp only;split at h
   ·rename_i b hb;rw[hb];simp only;simp only[putK_eq]at h;cases b<;>cases want<;>simp only[br]at h
    ·rw[St.put_same hb (by simp)]at h;exact .inl ⟨rfl,h⟩
    ·rw[St.put_same hb (by simp)]at h;exact .inr ⟨rfl,h⟩
    ·rw[St.put_same hb (by simp)]at h;exact .inr ⟨rfl,h⟩
    ·rw[St.put_same hb (by simp)]at h;exact .inl ⟨rfl,h⟩
   ·rename_i hb;rw[hb];exact .inr ⟨rfl,h⟩
   ·cases h
  ·cases h
def StepC(all:List Oper)(C:Cx)(o:Oper)(v:Value)(r:Rc)(σ σ1:St):Prop:=(wantC all σ o=some true∧StepW C o v r σ σ1)∨(wantC all σ o=some false∧r=rc0∧v=.tuple ⟨[]⟩∧σ1=σ.put o.dst v)
theorem ordRunC_spec{α:Type}{C:Cx}{all:List Oper}{k:St->List Rc->Option α}{r:α}:∀(l:List Oper)(nx:Nat)(σ:St)(rc:List Rc),ordRunC C all l nx σ rc k=some r->
  ∃(S:Nat->St)(v:Nat->Value)(rc':List Rc),S 0=σ∧(∀i o,l[i]? =some o->StepC all C o (v i) (rc'.getD (rc.length+i) rc0) (S i) (S (i+1)))∧(∀i,i<rc.length->rc'.getD i rc0=rc.getD i rc0)∧k (S l.length) rc'=some r
 |[],nx,σ,rc,h=>⟨fun _=>σ,fun _=>unk,rc,rfl,fun i o h=>by simp at h,fun _ _=>rfl,h⟩
 |o::rest,nx,σ,rc,h=>by
  have fin:∀(v0:Value)(σ1:St)(nx':Nat)(r0:Rc),StepC all C o v0 r0 σ σ1->ordRunC C all rest nx' σ1 (rc++[r0]) k=some r->
   ∃(S:Nat->St)(v:Nat->Value)(rc':List Rc),S 0=σ∧(∀i o',(o::rest)[i]? =some o'->StepC all C o' (v i) (rc'.getD (rc.length+i) rc0) (S i) (S (i+1)))∧(∀i,i<rc.length->rc'.getD i rc0=rc.getD i rc0)∧k (S (o::rest).length) rc'=some r:=by
   intro v0 σ1 nx' r0 hst h;obtain⟨S,v,rc',h0,h1,h2,h4⟩:=ordRunC_spec rest nx' σ1 _ h;have e1:rc'.getD rc.length rc0=r0:=by rw[h2 rc.length (by simp)];simp
   refine⟨fun|0=>σ|i+1=>S i,fun|0=>v0|i+1=>v i,rc',rfl,fun i o' ho=>?_,fun i hi=>?_,by simpa using h4⟩
   ·cases i with
    |zero=>
     simp at ho;subst ho;simp only[Nat.add_zero];rw[h0,e1];exact hst
    |succ i=>
     have:=h1 i o' (by simpa using ho);simp only[AG,List.length_cons,List.length_nil]at this;rw[show rc.length+(i+1)=rc.length+(0+1)+i by omega];exact this
   ·have:=h2 i (by simp;omega);simp only[List.getD_eq_getElem?_getD]at this⊢;rw[AQ hi]at this;exact this
  unfold ordRunC at h;rcases guardV_spec h with⟨hg,h⟩|⟨hg,h⟩
  rotate_left
  ·rw[putK_eq]at h;exact fin _ _ _ rc0 (.inr ⟨hg,rfl,rfl,rfl⟩) h
  split at h
  ·cases h
  rename_i rs hrs;split at h
  ·rename_i hmk;have hns:isSt o.op=false:=by
    cases hop:o.op<;>first|rfl|(rw[hop]at hmk;simp[isMk,isMkR]at hmk)
   split at h
   ·rename_i c b f hb hn;cases c with
    |false=>cases h
    |true=>
     simp only[br,frc_eq]at h;exact fin _ _ _ ⟨2,nx,[],rs⟩ (.inl ⟨hg,hrs,.inr (.inr ⟨rfl,hns,b,f,.inl hb,hn,rfl,rfl⟩)⟩) h
   ·cases h
  ·rename_i hmk;split at h
   ·rename_i t a x ho;split at h
    ·rename_i m hb hs;rw[frc_eq]at h;exact fin unk _ _ ⟨1,_,[],rs⟩ (.inl ⟨hg,hrs,.inr (.inl ⟨rfl,t,a,x,m,ho,rfl,hb,hs,rfl⟩)⟩) h
    ·cases h
   ·rename_i hns;have hst:isSt o.op=false:=by unfold isSt;split<;>first|rfl|(rename_i ho;exact absurd ho (hns _ _ _))
    split at h
    ·rename_i b f hv;split at h
     ·rename_i hn;rw[frc_eq]at h;exact fin _ _ _ ⟨2,nx,[],rs⟩ (.inl ⟨hg,hrs,.inr (.inr ⟨rfl,hst,b,f,.inr hv,hn,rfl,rfl⟩)⟩) h
     ·cases h
    ·rw[evQ_bind]at h;obtain⟨v0,hv,h'⟩:=Option.bind_eq_some_iff.1 h;split at h'
     ·rename_i l hl';rw[putK_eq]at h';exact fin v0 _ _ ⟨0,0,l,rs⟩ (.inl ⟨hg,hrs,.inl ⟨rfl,by unfold isWr;rw[hmk,Bool.or_false];exact hst,hv,hl',rfl⟩⟩) h'
     ·cases h'
structure TextC(md:Region.Mode)(ops:Array Oper)(m b0:Nat)(rc:List Rc)(i:Nat)(oi:Oper)(xs:List Operand):Prop where
 guard:∀j want,oi.guard=some (j,want)->j<i∧waitsC md ops i j=true
 std:isSt oi.op=true->oi.dst=none
 opn:opndsC oi.op=some xs
 one:∀j oj d,ops[j]? =some oj->oj.dst=some d->oi.dst=some d->i=j
 rd:∀j oj d,j<m->ops[j]? =some oj->oj.dst=some d->Operand.tmp d∈xs->j<i∧waitsC md ops i j=true
 ww:∀j oj,j<m->ops[j]? =some oj->(rc.getD i rc0).kd≠0->(rc.getD j rc0).kd≠0->j<i->(rc.getD i rc0).id=(rc.getD j rc0).id->waitsC md ops i j=true
 lw:∀j oj,j<m->ops[j]? =some oj->(rc.getD j rc0).kd≠0->(rc.getD j rc0).id∈(rc.getD i rc0).rs->i=j∨(waitsC md ops i j=true∧j<i)∨(waitsC md ops j i=true∧i<j)
 kk:∀j oj,j<m->ops[j]? =some oj->(rc.getD i rc0).kd=2->(rc.getD j rc0).kd=2->(rc.getD i rc0).id=(rc.getD j rc0).id->i=j
 nw:(rc.getD i rc0).kd=2->b0<=(rc.getD i rc0).id
 mt:∀d,d∈(rc.getD i rc0).vs->d<b0∨∃j,j<m∧(rc.getD j rc0).kd=2∧waitsC md ops i j=true∧(rc.getD j rc0).id=d
theorem textC_split{md:Region.Mode}{ops:Array Oper}{z m b0:Nat}{rc:List Rc}(h:ordTextC md ops z m b0 rc=true):z<=m∧(∀i,i<z->leadB md ops i=true):=by
 unfold ordTextC at h;rw[A2,A2]at h;exact⟨by have:=h.1;rw[Nat.ble_eq]at this;exact this,fun i hi=>List.all_eq_true.1 h.2.1 i (List.mem_range.2 hi)⟩
theorem textC_back{md:Region.Mode}{ops:Array Oper}{z m b0:Nat}{rc:List Rc}(h:ordTextC md ops z m b0 rc=true){i:Nat}{oi:Oper}(hi:ops[i]? =some oi):
  (∀e∈oi.after,Region.binds md e=true->e.on<i)∧(m<=i->∀k,k<i->z<=k->waitsC md ops i k=true∨(i=m∧lateC md ops z m=true∧(rc.getD k rc0).kd=0)):=by
 have hlt:i<ops.size:=(A1.1 hi).1;unfold ordTextC at h;rw[A2,A2,A2]at h;have h1:=List.all_eq_true.1 h.2.2.1 i (List.mem_range.2 hlt);simp only[hi,A2,Bool.or_eq_true]at h1;refine⟨fun e he hb=>?_,fun hm k hk hzk=>?_⟩
 ·have:=Array.all_eq_true_iff_forall_mem.1 h1.1 e he;rw[hb]at this;simpa using this
 ·rcases h1.2 with h2|h2|⟨h2,h3,h4⟩
  ·have:i<m:=by simpa using h2
   omega
  ·have:=List.all_eq_true.1 h2 k (List.mem_range.2 hk);have hz:Nat.blt k z=false:=by
    cases hq:Nat.blt k z with
    |false=>rfl
    |true=>have:=Nat.le_of_ble_eq_true hq;omega
   rw[hz]at this;exact .inl (by simpa using this)
  ·have e:=AF h2;subst e;have:=List.all_eq_true.1 h4 k (List.mem_range.2 hk);have hz:Nat.blt k z=false:=by
    cases hq:Nat.blt k z with
    |false=>rfl
    |true=>have:=Nat.le_of_ble_eq_true hq;omega
   rw[hz]at this;simp only[Bool.false_or,Bool.or_eq_true]at this;rcases this with h5|h5
   ·exact .inl h5
   ·exact .inr ⟨rfl,h3,AF h5⟩
theorem nbeq{a b:Nat}(h:(!Nat.beq a b)=true):a≠b:=fun he=>by
 subst he;have:Nat.beq a a=true:=Nat.beq_refl a;rw[this]at h;cases h
theorem nb0{a:Nat}(h:a≠0):(!Nat.beq a 0)=true:=by
 cases a with
 |zero=>exact absurd rfl h
 |succ a=>rfl
theorem textC_of{md:Region.Mode}{ops:Array Oper}{z m b0:Nat}{rc:List Rc}(h:ordTextC md ops z m b0 rc=true){i:Nat}{oi:Oper}(him:i<m)(hi:ops[i]? =some oi):∃xs,TextC md ops m b0 rc i oi xs:=by
 unfold ordTextC at h;rw[A2,A2,A2]at h;have h1:=List.all_eq_true.1 h.2.2.2 i (List.mem_range.2 him);simp only[hi,A2]at h1;obtain⟨⟨⟨⟨h2,h3⟩,hmt⟩,hnw⟩,h5⟩:=h1;split at h5
 ·cases h5
 ·rename_i xs hxs;rw[A2]at h5;obtain⟨h6,h7⟩:=h5;have key:∀j oj,j<m->ops[j]? =some oj->_:=fun j oj hjm hj=>by
   have:=List.all_eq_true.1 h7 j (List.mem_range.2 hjm);simp only[hj,A2]at this;exact this
  refine⟨xs,?_,?_,hxs,?_,?_,?_,?_,?_,?_,?_⟩
  ·intro j want hg;rw[hg]at h2;simp only[A2]at h2;exact⟨by simpa using h2.1,h2.2⟩
  ·intro hs;rw[hs]at h3;cases hd:oi.dst with
   |none=>rfl
   |some d=>rw[hd]at h3;cases h3
  ·intro j oj d hj hd hd';have:=List.all_eq_true.1 h6 j (List.mem_range.2 (A1.1 hj).1);simp only[hj,hd,hd',Bool.or_eq_true]at this;rcases this with k|k
   ·exact AF k
   ·exact absurd rfl (nbeq k)
  ·intro j oj d hjm hj hd hx;obtain⟨⟨⟨k1,_⟩,_⟩,_⟩:=key j oj hjm hj;rw[hd]at k1;simp only[A2,Bool.or_eq_true,Bool.not_eq_true']at k1;rcases k1 with k|k
   ·have:(xs.any (isTmp d))=true:=List.any_eq_true.2 ⟨_,hx,Nat.beq_refl d⟩;rw[this]at k;cases k
   ·exact⟨by simpa using k.1,k.2⟩
  ·intro j oj hjm hj hi1 hj1 hlt he;obtain⟨⟨⟨_,k1⟩,_⟩,_⟩:=key j oj hjm hj;have h1:Nat.blt j i=true:=by simpa using hlt
   have h2:Nat.beq (rc.getD i rc0).id (rc.getD j rc0).id=true:=by rw[he];exact Nat.beq_refl _
   rw[nb0 hi1,nb0 hj1,h1,h2]at k1;simpa using k1
  ·intro j oj hjm hj hj1 hmem;obtain⟨⟨⟨_,_⟩,k1⟩,_⟩:=key j oj hjm hj;have h2:((rc.getD i rc0).rs.any (Nat.beq (rc.getD j rc0).id))=true:=List.any_eq_true.2 ⟨_,hmem,Nat.beq_refl _⟩;rw[nb0 hj1,h2]at k1;simp only[Bool.and_self,Bool.not_true,Bool.false_or,Bool.or_eq_true,A2]at k1;rcases k1 with(k|k)|k
   ·exact .inl (AF k)
   ·exact .inr (.inl ⟨k.1,by simpa using k.2⟩)
   ·exact .inr (.inr ⟨k.1,by simpa using k.2⟩)
  ·intro j oj hjm hj hi1 hj1 he;obtain⟨⟨⟨_,_⟩,_⟩,k1⟩:=key j oj hjm hj;have h22:Nat.beq 2 2=true:=rfl;rw[hi1,hj1,h22]at k1;simp only[Bool.and_self,Bool.not_true,Bool.false_or,Bool.or_eq_true]at k1;rcases k1 with k|k
   ·exact AF k
   ·exact absurd he (nbeq k)
  ·intro hk;have h22:Nat.beq 2 2=true:=rfl;rw[hk,h22]at hnw;simpa using hnw
  ·intro d hd;have:=List.all_eq_true.1 hmt d hd;rw[Bool.or_eq_true]at this;rcases this with k|k
   ·exact .inl (by simpa using k)
   ·obtain⟨j,hj,k⟩:=List.any_eq_true.1 k;simp only[A2]at k;obtain⟨⟨k1,k2⟩,k3⟩:=k;exact .inr ⟨j,List.mem_range.1 hj,AF k3,k2,AF k1⟩
def Cell(ops:Array Oper)(τ0:List Value)(v:Nat->Value)(L:Nat->Bool)(τ:List Value):Prop:=τ.length=τ0.length∧(∀j o d,ops[j]? =some o->o.dst=some d->L j=true->d<τ0.length->τ[d]? =some (v j))∧∀t,(∀j o,ops[j]? =some o->o.dst=some t->L j=false)->τ[t]? =τ0[t]?
def putT(d:Option Tmp)(x:Value)(τ:List Value):List Value:=match d with|some t=>τ.set t x|none=>τ
theorem Cell.put{ops:Array Oper}{τ0:List Value}{v:Nat->Value}{L L':Nat->Bool}{τ:List Value}{i:Nat}{oi:Oper}(h:Cell ops τ0 v L τ)(hi:ops[i]? =some oi)
  (hone:∀j oj d,ops[j]? =some oj->oj.dst=some d->oi.dst=some d->i=j) (hL:∀j,L' j=true↔(L j=true∨j=i)):Cell ops τ0 v L' (putT oi.dst (v i) τ):=by
 obtain⟨h1,h2,h3⟩:=h;unfold putT;cases hd:oi.dst with
 |none=>
  refine⟨h1,fun j o d hj hjd hl hlt=>?_,fun t ht=>h3 t fun j o hj hjt=>?_⟩
  ·rcases(hL j).1 hl with hl|rfl
   ·exact h2 j o d hj hjd hl hlt
   ·rw[hi]at hj;cases hj;rw[hd]at hjd;cases hjd
  ·have:=ht j o hj hjt;cases hl:L j with
   |false=>rfl
   |true=>rw[(hL j).2 (.inl hl)]at this;cases this
 |some t0=>
  refine⟨by simp[h1],fun j o d hj hjd hl hlt=>?_,fun t ht=>?_⟩
  ·by_cases hij:j=i
   ·subst hij;rw[hi]at hj;cases hj;rw[hd]at hjd;cases hjd;rw[List.getElem?_set_self (by omega)]
   ·rcases(hL j).1 hl with hl|rfl
    ·rw[List.getElem?_set_ne (fun he=>hij (hone j o d hj hjd (by rw[hd,he])).symm)];exact h2 j o d hj hjd hl hlt
    ·exact absurd rfl hij
  ·have hne:t0≠t:=fun he=>by
    have:=ht i oi hi (by rw[hd,he]);rw[(hL i).2 (.inr rfl)]at this;cases this
   rw[List.getElem?_set_ne hne];exact h3 t fun j o hj hjt=>by
    have:=ht j o hj hjt;cases hl:L j with
    |false=>rfl
    |true=>rw[(hL j).2 (.inl hl)]at this;cases this
theorem Cell.get{ops:Array Oper}{τ0:List Value}{v:Nat->Value}{L L':Nat->Bool}{τ τ':List Value}(h:Cell ops τ0 v L τ)(h':Cell ops τ0 v L' τ'){t:Nat}(hL:∀j o,ops[j]? =some o->o.dst=some t->L j=L' j):τ[t]? =τ'[t]? :=by
 by_cases he:∃j o,ops[j]? =some o∧o.dst=some t∧L j=true
 ·obtain⟨j,o,hj,hd,hl⟩:=he;by_cases hlt:t<τ0.length
  ·rw[h.2.1 j o t hj hd hl hlt,h'.2.1 j o t hj hd (by rw[<-hL j o hj hd];exact hl) hlt]
  ·rw[List.getElem?_eq_none (by rw[h.1];omega),List.getElem?_eq_none (by rw[h'.1];omega)]
 ·have hno:∀j o,ops[j]? =some o->o.dst=some t->L j=false:=fun j o hj hd=>by
   cases hl:L j with
   |false=>rfl
   |true=>exact absurd ⟨j,o,hj,hd,hl⟩ he
  rw[h.2.2 t hno,h'.2.2 t fun j o hj hd=>by rw[<-hL j o hj hd];exact hno j o hj hd]
theorem in_listed{listed:Array Bool}{j n:Nat}(hs:listed.size=n)(hj:j<n):listed.getD j true=listed.getD j false:=by
 have:j<listed.size:=by omega
 simp[this]
theorem set_get{n:Nat}{listed:Array Bool}{i j:Nat}(hs:listed.size=n)(hi:i<n):(listed.setIfInBounds i true).getD j false=true↔(listed.getD j false=true∨j=i):=by
 by_cases h:i=j
 ·subst h;have:i<listed.size:=by omega
  simp[this]
 ·rw[getD_set_ne false h];constructor
  ·exact .inl
  ·rintro(h1|h1)
   ·exact h1
   ·exact absurd h1.symm h
theorem prd_un{md:Region.Mode}{ops:Array Oper}{listed:Array Bool}{i:Nat}(inv:Clo md ops listed)(hun:listed.getD i false=false):∀(n j:Nat),i∈prd md ops n j->listed.getD j false=false∧j∉Region.ready md ops listed
 |0,j,h=>by unfold prd at h;cases h
 |n+1,j,h=>by
  unfold prd at h;split at h
  ·rename_i oj hoj;obtain⟨e,he,h1⟩:=List.mem_flatMap.1 h;split at h1
   ·rename_i hb;have hm:listed.getD e.on false=false:=by
     rcases A8.1 h1 with h2|h2
     ·rw[<-h2];exact hun
     ·exact(prd_un inv hun n e.on h2).1
    have he':e∈oj.after:=by simpa using he
    constructor
    ·cases hl:listed.getD j false with
     |false=>rfl
     |true=>
      have:=inv j oj hoj hl e he' hb;rw[hm]at this;cases this
    ·intro hr;obtain⟨_,oj',hoj',hall⟩:=mem_ready.1 hr;have:oj'=oj:=Option.some.inj (hoj'.symm.trans hoj);subst this;have:=hall e he' hb;rw[hm]at this;cases this
   ·cases h1
  ·cases h
theorem waitsC_un{md:Region.Mode}{ops:Array Oper}{listed:Array Bool}{i j:Nat}(inv:Clo md ops listed)(hun:listed.getD i false=false)(h:waitsC md ops j i=true):listed.getD j false=false∧j∉Region.ready md ops listed:=by
 unfold waitsC at h;obtain⟨k,hk,he⟩:=List.any_eq_true.1 h;rw[AF he]at hk;exact prd_un inv hun 12 j hk
theorem readyC{md:Region.Mode}{ops:Array Oper}{listed:Array Bool}{i j:Nat}(inv:Clo md ops listed)(hr:i∈Region.ready md ops listed)(hw:waitsC md ops i j=true):listed.getD j false=true:=by
 cases hl:listed.getD j false with
 |true=>rfl
 |false=>exact absurd hr (waitsC_un inv hl hw).2
theorem listedC{md:Region.Mode}{ops:Array Oper}{listed:Array Bool}{i j:Nat}(inv:Clo md ops listed)(hl:listed.getD i false=true)(hw:waitsC md ops i j=true):listed.getD j false=true:=by
 cases h:listed.getD j false with
 |true=>rfl
 |false=>
  have:=(waitsC_un inv h hw).1;rw[hl]at this;cases this
theorem any_chain{P:Program}{md:Region.Mode}{ops:Array Oper}{Q:Exit->Act->World->Prop}{z m:Nat}(hz:z<=m)(hb:∀(i:Nat) oi,ops[i]? =some oi->(∀e∈oi.after,Region.binds md e=true->e.on<i)∧(m<=i->∀k,k<i->m<=k->waitsC md ops i k=true)):
  ∀(f i:Nat)(listed:Array Bool)(a:Act)(w:World),m<=i->i<=ops.size->listed.size=ops.size->Clo md ops listed->(∀j,j<ops.size->(listed.getD j false=true↔j<i))->ops.size-i<=f->
   wpList P ops Q (ops.toList.drop i) a w->wpAny P md ops Q f listed a w:=by
 have key:∀(i:Nat)(listed:Array Bool),m<=i->i<=ops.size->listed.size=ops.size->Clo md ops listed->(∀j,j<ops.size->(listed.getD j false=true↔j<i))->∀j,j∈Region.ready md ops listed↔(j=i∧i<ops.size):=by
  intro i listed hm hi hs inv hl j;constructor
  ·intro hr;obtain⟨hun,oj,hoj,_⟩:=mem_ready.1 hr;have hj:=(A1.1 hoj).1;have h1:=getD_both hun;have h2:¬j<i:=fun h=>by rw[(hl j hj).2 h]at h1;cases h1
   by_cases hji:j=i
   ·exact⟨hji,by omega⟩
   ·exfalso;have h3:=readyC inv hr ((hb j oj hoj).2 (by omega) i (by omega) (by omega));have:=(hl i (by omega)).1 h3;omega
  ·rintro⟨rfl,hlt⟩;have ho:ops[j]? =some ops[j]:=AJ hlt;refine mem_ready.2 ⟨?_,_,ho,fun e he hbe=>?_⟩
   ·rw[in_listed hs hlt];cases h:listed.getD j false with
    |false=>rfl
    |true=>have:=(hl j hlt).1 h;omega
   ·have:=(hb j _ ho).1 e he hbe;exact(hl e.on (by omega)).2 this
 intro f
 induction f with
 |zero=>
  intro i listed a w hm hi hs inv hl hf h;have hie:i=ops.size:=by omega
  refine⟨?_,?_⟩
  ·cases hr:Region.ready md ops listed with
   |nil=>rfl
   |cons j l=>
    exfalso;have:=(key i listed hm hi hs inv hl j).1 (by rw[hr];simp);omega
  ·rw[List.drop_eq_nil_of_le (by simp;omega)]at h;exact h
 |succ f ih=>
  intro i listed a w hm hi hs inv hl hf h;refine⟨fun hr=>?_,fun j hr=>?_⟩
  ·rcases Nat.lt_or_ge i ops.size with hlt|hge
   ·have:=(key i listed hm hi hs inv hl i).2 ⟨rfl,hlt⟩;rw[hr]at this;cases this
   ·rw[List.drop_eq_nil_of_le (by simp;omega)]at h;exact h
  ·obtain⟨rfl,hlt⟩:=(key i listed hm hi hs inv hl j).1 hr;have ho:ops[j]? =some ops[j]:=AJ hlt;have hd:ops.toList.drop j=ops[j]::ops.toList.drop (j+1):=by
    rw[List.drop_eq_getElem_cons (by simpa using hlt)];simp
   have hnext:∀a w,wpList P ops Q (ops.toList.drop (j+1)) a w->wpAny P md ops Q f (listed.setIfInBounds j true) a w:=fun a w hh=>
    ih (j+1) _ a w (by omega) (by omega) (by simp[hs]) (inv.set hr) (fun k hk=>by rw[set_get hs hlt,hl k hk];omega) (by omega) hh
   rw[hd]at h;unfold wpList at h;unfold wpOp;simp only[ho];split
   ·rename_i hw;rw[AM hw]at h;rcases h with h|h
    ·exact .inl (Oper.wp_mono hnext h)
    ·exact .inr h
   ·rename_i hw;rw[AL hw]at h;exact hnext _ _ h
theorem wp_of_quiet{P:Program}{o:Oper}{a:Act}{Cl:World->Prop}{w:World}{v:Value}{K:Act->World->Prop}{Q:Exit->Act->World->Prop}(h:o.quietAt P a Cl w v)(h0:Cl w)(hK:∀w',Cl w'->K (a.put o.dst v) w'):o.wp P a w K Q:=by
 unfold Oper.quietAt at h;unfold Oper.wp;generalize(execOp a.eval o).run P w=r at*
 cases r with
 |ok n w'=>
  cases n<;>simp only[Oper.quietUpon]at h
  case value u=>
   obtain⟨rfl,rfl⟩:=h;exact hK _ h0
  case skip=>
   obtain⟨rfl,rfl⟩:=h;exact hK _ h0
  case enter f args=>
   obtain⟨rfl,hc⟩:=h;simp only[Oper.upon];exact hc.mono fun e w'' he=>by
    obtain⟨rfl,hw⟩:=he;exact hK _ hw
 |halt x w'=>simp only[Oper.quietUpon]at h
theorem tmp_ids{ρ:Map}{N:Nat}{τ:List Value}{ts:Array Value}(h:TmpR ρ N τ ts):∀x,x∈τ->Ids (fun i=>i<N) x:=fun x hx=>by
 obtain⟨j,hj⟩:=List.mem_iff_getElem?.1 hx;have hjl:j<ts.size:=by have:=(A0.1 hj).1;have:=h.1;omega
 exact(h.2 j x _ hj (AJ hjl)).ids
theorem tmps_ids{ρ:Map}{N:Nat}:∀{τs:List (List Value)}{ts:List (Array Value)},TmpsR ρ N τs ts->∀τ,τ∈τs->∀x,x∈τ->Ids (fun i=>i<N) x
 |[],[],_,τ,hτ,_,_=>by cases hτ
 |τ0::τs,t::ts,h,τ,hτ,x,hx=>by
  rcases A8.1 hτ with rfl|hτ
  ·exact tmp_ids h.1 x hx
  ·exact tmps_ids h.2 τ hτ x hx
theorem tmps_swap{ρ ρ':Map}{N N':Nat}:∀{τs:List (List Value)}{ts:List (Array Value)},(∀τ,τ∈τs->∀x y,x∈τ->V ρ N x y->V ρ' N' x y)->TmpsR ρ N τs ts->TmpsR ρ' N' τs ts
 |[],[],_,_=>trivial
 |τ0::τs,t::ts,hf,h=>⟨⟨h.1.1,fun j x y hx hy=>hf τ0 (by simp) x y (List.mem_of_getElem? hx) (h.1.2 j x y hx hy)⟩,tmps_swap (fun τ hτ=>hf τ (by simp[hτ])) h.2⟩
theorem ids1_ids{p:Nat->Prop}{x:Value}{l:List Nat}(h:ids1 x=some l)(hp:∀i∈l,p i):Ids p x:=by
 unfold ids1 at h;split at h<;>first|(cases h;done)|skip
 all_goals (try cases h)
 ·exact .bool
 ·exact .int
 ·exact .str
 ·exact .ptrNil
 ·exact .nilFunc
 ·exact .nilIface
 ·exact .sliceNil
 ·exact .unk
 ·exact .func (fun i x hx=>by simp at hx) (fun i x hx=>by simp at hx)
 ·exact .ptr (hp _ (by simp))
 ·exact .slice (hp _ (by simp))
theorem idsL_ids{p:Nat->Prop}:∀{xs:List Value}{l:List Nat},idsL xs=some l->(∀i∈l,p i)->∀(j:Nat)(x:Value),xs[j]? =some x->Ids p x
 |[],_,_,_,j,x,hx=>by simp at hx
 |y::ys,l,h,hp,j,x,hx=>by
  unfold idsL at h;split at h
  ·rename_i a b h1 h2;cases h;cases j with
   |zero=>simp at hx;subst hx;exact ids1_ids h1 fun i hi=>hp i (by simp[hi])
   |succ j=>exact idsL_ids h2 (fun i hi=>hp i (by simp[hi])) j x (by simpa using hx)
  ·cases h
theorem idsA_ids{p:Nat->Prop}{x:Value}{l:List Nat}(h:idsA x=some l)(hp:∀i∈l,p i):Ids p x:=by
 unfold idsA at h;split at h
 ·exact .agg fun i x hx=>idsL_ids h hp i x (by simpa using hx)
 ·split at h
  ·rename_i a b h1 h2;cases h;exact .func (fun i x hx=>idsL_ids h1 (fun i hi=>hp i (by simp[hi])) i x (by simpa using hx)) (fun i x hx=>idsL_ids h2 (fun i hi=>hp i (by simp[hi])) i x (by simpa using hx))
  ·cases h
 ·exact ids1_ids h hp
theorem idsT_ids{p:Nat->Prop}:∀{xs:List Value}{l:List Nat},idsT xs=some l->(∀i∈l,p i)->∀(j:Nat)(x:Value),xs[j]? =some x->Ids p x
 |[],_,_,_,j,x,hx=>by simp at hx
 |y::ys,l,h,hp,j,x,hx=>by
  unfold idsT at h;split at h
  ·rename_i a b h1 h2;cases h;cases j with
   |zero=>simp at hx;subst hx;exact idsA_ids h1 fun i hi=>hp i (by simp[hi])
   |succ j=>exact idsT_ids h2 (fun i hi=>hp i (by simp[hi])) j x (by simpa using hx)
  ·cases h
theorem idsV_ids{p:Nat->Prop}{x:Value}{l:List Nat}(h:idsV x=some l)(hp:∀i∈l,p i):Ids p x:=by
 unfold idsV at h;split at h
 ·exact .tuple fun i x hx=>idsT_ids h hp i x (by simpa using hx)
 ·exact idsA_ids h hp
theorem atom_ids{p:Nat->Prop}{x:Value}(h:atom x=true):Ids p x:=(V.atom (ρ:=fun _=>none) (N:=0) h).ids.mono fun i hi=>absurd hi (Nat.not_lt_zero i)
theorem env_ids{p:Nat->Prop}{τ:List Value}(h:∀x,x∈τ->Ids p x)(o:Operand):Ids p (env τ o):=by
 cases o with
 |tmp t=>
  show Ids p (getF τ t);rw[getF_eq,List.getD_eq_getElem?_getD];cases hx:τ[t]? with
  |none=>exact .unk
  |some x=>exact h x (List.mem_of_getElem? hx)
 |const v=>
  show Ids p (match atom v with|true=>v|false=>Ev.unk)
  cases hv:atom v
  ·exact .unk
  ·exact atom_ids hv
 |global g=>exact .unk
 |func f=>exact .func (fun i x hx=>by simp at hx) (fun i x hx=>by simp at hx)
theorem lcells_ids{p:Nat->Prop}{x:Value}(h:Ids p x):∀y,y∈lcells x->Ids p y:=fun y hy=>by
 unfold lcells at hy;split at hy
 ·cases h with
  |agg h=>
   obtain⟨i,hi⟩:=List.mem_iff_getElem?.1 hy;exact h i y (by simpa using hi)
 ·simp at hy;subst hy;exact h
theorem mkBlk_ids{p:Nat->Prop}{C:Cx}{mem:List (Option Blk)}{τ:List Value}(h:∀x,x∈τ->Ids p x){op:Op}{c:Bool}{cells:List Value}{v:Nat->Value}(hb:mkBlk C mem (env τ) op=some (c,.box cells,v)):∀y,y∈cells->Ids p y:=by
 unfold mkBlk at hb;split at hb
 ·split at hb
  ·split at hb
   ·rename_i ha;cases hb;exact lcells_ids (atom_ids ha)
   ·cases hb
  ·cases hb
 ·split at hb
  ·cases hb;exact lcells_ids (env_ids h _)
  ·cases hb
 ·repeat' split at hb
  all_goals (cases hb)
 ·repeat' split at hb
  all_goals first|(cases hb;done)|skip
  all_goals (cases hb;intro y hy;cases hy)
 ·repeat' split at hb
  all_goals (cases hb)
 ·cases hb
theorem put_ids{p q:Nat->Prop}{τ:List Value}{d:Option Tmp}{v:Value}(h:∀x,x∈τ->Ids p x)(hpq:∀i,p i->q i)(hv:Ids q v):∀x,x∈putT d v τ->Ids q x:=fun x hx=>by
 unfold putT at hx;cases d with
 |none=>exact(h x hx).mono hpq
 |some t=>
  rcases List.mem_or_eq_of_mem_set hx with hx|hx
  ·exact(h x hx).mono hpq
  ·rw[hx];exact hv
theorem mkBlk_nd{C:Cx}{mem:List (Option Blk)}{f:Operand->Value}{op:Op}{c:Bool}{b:Blk}{g:Nat->Value}(h:mkBlk C mem f op=some (c,b,g)):∀ks r hh,b≠.deep ks r hh:=by
 intro ks r hh he;subst he;unfold mkBlk at h
 repeat' split at h
 all_goals first|cases h|(simp at h)
section lead
variable{P:Program}{md:Region.Mode}{ops:Array Oper}{Q:Exit->Act->World->Prop}
theorem wpOp_lead(hQ:∀e a w,Q e a w->e=.normal){j:Nat}{oi oj:Oper}(hj:ops[j]? =some oj)(hap:oi.apart ops oj=true)(hsj:∀cs b,oj.op≠.select cs b){x:Operand}(hop:oi.op=.move x){v:Value}{K:Act->World->Prop}{a:Act}{w:World}(hv:a.eval x=v)
  (h:wpOp P ops Q j K (a.put oi.dst v) w):wpOp P ops Q j (fun a' w'=>a'.eval x=v∧K (a'.put oi.dst v) w') a w:=by
 obtain⟨h1,h2,h3⟩:=Oper.apart_spec hap;have hx:∀u,(a.put oj.dst u).eval x=v:=fun u=>by
  rw[<-hv];refine Act.eval_put fun d hd hxd=>?_;refine h3 d hd ?_;unfold Oper.looksAt;refine List.mem_append_left _ (List.mem_filterMap.2 ⟨.tmp d,?_,rfl⟩);rw[hop,<-hxd];simp[Op.operands]
 have hnl:LetsOut Q->False:=fun⟨_,_,h⟩=>by have:=hQ _ _ _ h;cases this
 unfold wpOp at*
 simp only[hj]at*
 rw[wanted_put oj a oi.dst v h1]at h;split
 ·rename_i hw;rw[AM hw]at h;rcases h with h|h
  ·left
   unfold Oper.wp at*
   rw[execOp_put oj hsj a oi.dst v h1]at h;generalize(execOp a.eval oj).run P w=r at*
   cases r with
   |ok n w'=>
    cases n with
    |value u=>exact⟨hx u,by rw[<-Act.put_comm a v u h2];exact h⟩
    |skip=>exact⟨hx undef,by rw[<-Act.put_comm a v undef h2];exact h⟩
    |defer D=>
     have h':K (({a.put oi.dst v with defers:=D::(a.put oi.dst v).defers}:Act).put oj.dst undef) w':=h;rw[defer_put,Act.put_comm _ v undef h2]at h';refine⟨?_,h'⟩;have e:(({a with defers:=D::a.defers}:Act).put oj.dst undef).eval x=(a.put oj.dst undef).eval x:=by cases x<;>cases oj.dst<;>rfl
     exact e.trans (hx undef)
    |enter f args=>
     refine Calls.mono h fun e w'' he=>?_;cases e with
     |returned u=>exact⟨hx u,by rw[<-Act.put_comm a v u h2];exact he⟩
     |panicked c=>have:=hQ _ _ _ he;cases this
     |outgrown=>exact he
    |row r args=>exact Rows.mono h fun u w'' he=>⟨hx u,by rw[<-Act.put_comm a v u h2];exact he⟩
    |_=>simp only[Oper.upon]at h
   |halt y w'=>
    cases y<;>simp only[Oper.upon]at h⊢;have:=hQ _ _ _ h;cases this
  ·exact(hnl h.2).elim
 ·rename_i hw;rw[AL hw]at h;exact⟨hx undef,by rw[<-Act.put_comm a v undef h2];exact h⟩
theorem any_lead(hQ:∀e a w,Q e a w->e=.normal)(hsel:∀(j:Nat)(o:Oper) cs b,ops[j]? =some o->o.op≠.select cs b){i:Nat}{oi:Oper}{x:Operand}{v:Value}(hi:ops[i]? =some oi)(hop:oi.op=.move x)(hg:oi.guard=none)
  (hfree:∀j oj,ops[j]? =some oj->j≠i->waitsC md ops j i=false->oi.apart ops oj=true):∀(f:Nat)(listed:Array Bool)(a:Act)(w:World),listed.size=ops.size->Clo md ops listed->i∈Region.ready md ops listed->a.eval x=v->
   wpAny P md ops Q f (listed.setIfInBounds i true) (a.put oi.dst v) w->wpAny P md ops Q (f+1) listed a w:=by
 have self:∀(K:Act->World->Prop)(a:Act)(w:World),a.eval x=v->K (a.put oi.dst v) w->wpOp P ops Q i K a w:=fun K a w hv H=>by
  unfold wpOp;simp only[hi];rw[AM (by simp[Region.wanted,hg])]
  left
  unfold Oper.wp;have:(execOp a.eval oi).run P w=.ok (.value v) w:=by simp[execOp,hop,hv]
  rw[this];exact H
 intro f
 induction f with
 |zero=>
  intro listed a w hs _ hr hv H;refine⟨fun h=>(by rw[h]at hr;cases hr),fun j hj=>?_⟩;by_cases hji:j=i
  ·subst hji;exact self _ _ _ hv H
  ·have:=ready_mono hj hji;rw[H.1]at this;cases this
 |succ f ih=>
  intro listed a w hs inv hr hv H;have hun:=(mem_ready.1 hr).1;have hlt:i<ops.size:=(A1.1 hi).1;refine⟨fun h=>(by rw[h]at hr;cases hr),fun j hj=>?_⟩;by_cases hji:j=i
  ·subst hji;exact self _ _ _ hv H
  ·have h1:=H.2 j (ready_mono hj hji);obtain⟨hjun,oj,hoj,hall⟩:=mem_ready.1 hj;have hnot:waitsC md ops j i=false:=by
    cases hw:waitsC md ops j i with
    |false=>rfl
    |true=>exact absurd hj (waitsC_un inv (by rw[<-in_listed hs hlt];exact hun) hw).2
   have h2:=wpOp_lead hQ hoj (hfree j oj hoj hji hnot) (fun cs b=>hsel j oj cs b hoj) hop hv h1;refine wpOp_mono (fun a' w' h3=>ih (listed.setIfInBounds j true) a' w' (by simp[hs]) (inv.set hj) (ready_mono hr (Ne.symm hji)) h3.1 ?_) h2;rw[Array.setIfInBounds_comm _ _ hji];exact h3.2
def Rn(P:Program)(o:Oper)(v:Value)(a:Act)(w:World):Prop:=∀w',Below w.heap.size w w'->(execOp a.eval o).run P w'=.ok (.value v) w'
theorem wpOp_first(hQ:∀e a w,Q e a w->e=.normal){j:Nat}{oi oj:Oper}(hj:ops[j]? =some oj)(hap:oi.apart ops oj=true)(hb:isBs oj.op=true){v:Value}(hsi:∀cs b,oi.op≠.select cs b){K:Act->World->Prop}{a:Act}{w:World}(hy:Rn P oi v a w)
  (h:wpOp P ops Q j K (a.put oi.dst v) w):wpOp P ops Q j (fun a' w'=>Rn P oi v a' w'∧K (a'.put oi.dst v) w') a w:=by
 obtain⟨h1,h2,h3⟩:=Oper.apart_spec hap;have hnl:LetsOut Q->False:=fun⟨_,_,h⟩=>by have:=hQ _ _ _ h;cases this
 have hsj:∀cs b,oj.op≠.select cs b:=fun cs b hs=>by rw[hs]at hb;cases hb
 have hYu:∀(u:Value)(w':World),Below w.heap.size w w'->Rn P oi v (a.put oj.dst u) w':=fun u w' hw w2 hw2=>by
  rw[execOp_put oi hsi a oj.dst u (fun d hd hx=>h3 d hd hx)];exact hy w2 (hw.trans (hw2.mono hw.size))
 unfold wpOp at*
 simp only[hj]at*
 rw[wanted_put oj a oi.dst v h1]at h;split
 ·rename_i hw;rw[AM hw]at h;rcases h with h|h
  ·left
   unfold Oper.wp at*
   rw[execOp_put oj hsj a oi.dst v h1]at h;have hbel:∀n w',(execOp a.eval oj).run P w=.ok n w'->Below w.heap.size w w'∧∃v,n=.value v:=fun n w' hr=>bs_below hb hr;generalize(execOp a.eval oj).run P w=r at*
   cases r with
   |ok n w'=>
    obtain⟨b1,x,hx⟩:=hbel n w' rfl;subst hx;exact⟨hYu x w' b1,by rw[<-Act.put_comm a v x h2];exact h⟩
   |halt y w'=>
    cases y<;>simp only[Oper.upon]at h⊢;have:=hQ _ _ _ h;cases this
  ·exact(hnl h.2).elim
 ·rename_i hw;rw[AL hw]at h;exact⟨hYu undef w (Below.refl _ _),by rw[<-Act.put_comm a v undef h2];exact h⟩
theorem any_first(hQ:∀e a w,Q e a w->e=.normal){i:Nat}{oi:Oper}{v:Value}(hi:ops[i]? =some oi)(hg:oi.guard=none)(hsi:∀cs b,oi.op≠.select cs b):∀(f:Nat)(listed:Array Bool)(a:Act)(w:World),listed.size=ops.size->Clo md ops listed->
   (∀j oj,ops[j]? =some oj->j≠i->listed.getD j false=false->waitsC md ops j i=false->oi.apart ops oj=true∧isBs oj.op=true)->i∈Region.ready md ops listed->Rn P oi v a w->
   wpAny P md ops Q f (listed.setIfInBounds i true) (a.put oi.dst v) w->wpAny P md ops Q (f+1) listed a w:=by
 have self:∀(K:Act->World->Prop)(a:Act)(w:World),Rn P oi v a w->K (a.put oi.dst v) w->wpOp P ops Q i K a w:=fun K a w hv H=>by
  unfold wpOp;simp only[hi];rw[AM (by simp[Region.wanted,hg])]
  left
  unfold Oper.wp;rw[hv w (Below.refl _ _)];exact H
 intro f
 induction f with
 |zero=>
  intro listed a w hs _ _ hr hv H;refine⟨fun h=>(by rw[h]at hr;cases hr),fun j hj=>?_⟩;by_cases hji:j=i
  ·subst hji;exact self _ _ _ hv H
  ·have:=ready_mono hj hji;rw[H.1]at this;cases this
 |succ f ih=>
  intro listed a w hs inv hfree hr hv H;have hun:=(mem_ready.1 hr).1;have hlt:i<ops.size:=(A1.1 hi).1;refine⟨fun h=>(by rw[h]at hr;cases hr),fun j hj=>?_⟩;by_cases hji:j=i
  ·subst hji;exact self _ _ _ hv H
  ·have h1:=H.2 j (ready_mono hj hji);obtain⟨hjun,oj,hoj,hall⟩:=mem_ready.1 hj;have hnot:waitsC md ops j i=false:=by
    cases hw:waitsC md ops j i with
    |false=>rfl
    |true=>exact absurd hj (waitsC_un inv (by rw[<-in_listed hs hlt];exact hun) hw).2
   obtain⟨q1,q2⟩:=hfree j oj hoj hji (getD_both hjun) hnot;have h2:=wpOp_first hQ hoj q1 q2 hsi hv h1;refine wpOp_mono (fun a' w' h3=>ih (listed.setIfInBounds j true) a' w' (by simp[hs]) (inv.set hj) (fun k ok hk hki hun2 hno=>hfree k ok hk hki ?_ hno) (ready_mono hr (Ne.symm hji)) h3.1 ?_) h2
   ·by_cases hjk:j=k
    ·subst hjk;exact getD_both hjun
    ·rw[getD_set_ne false hjk]at hun2;exact hun2
   ·rw[Array.setIfInBounds_comm _ _ hji];exact h3.2
end lead
section order
variable{C:Cx}{md:Region.Mode}{ops:Array Oper}{z m b0:Nat}{S:Nat->St}{v:Nat->Value}{rc:List Rc}
theorem put_mem(σ:St)(d:Option Tmp)(x:Value):(σ.put d x).mem=σ.mem:=by cases d<;>rfl
theorem put_sav(σ:St)(d:Option Tmp)(x:Value):(σ.put d x).saved=σ.saved:=by cases d<;>rfl
theorem put_tau(σ:St)(d:Option Tmp)(x:Value):(σ.put d x).τ=putT d x σ.τ:=by unfold putT St.put;cases d<;>rfl
theorem step_mem{o:Oper}{u:Value}{r:Rc}{σ σ1:St}(h:StepC ops.toList C o u r σ σ1)(j:Nat)(hne:r.kd≠0->r.id≠j):σ1.mem[j]? =σ.mem[j]? :=by
 rcases h with⟨_,_,h⟩|⟨_,_,_,h3⟩
 rotate_left
 ·rw[h3,put_mem]
 rcases h with⟨_,_,_,_,h3⟩|⟨hk,t,a,x,mm,hop,hid,hb,hs,h3⟩|⟨hk,_,b,f,_,_,_,h3⟩
 ·rw[h3,put_mem]
 ·rw[h3];obtain⟨c,c0,hc,_⟩:=storeV_boxC hb hs;have hn:=hne (by omega);rw[hid]at hn;show mm[j]? =_;rw[hc,List.getElem?_set_ne hn]
 ·rw[h3,put_mem];show(σ.mem.set r.id (some b))[j]? =_;rw[List.getElem?_set_ne (hne (by omega))]
theorem step_len{o:Oper}{u:Value}{r:Rc}{σ σ1:St}(h:StepC ops.toList C o u r σ σ1):σ1.mem.length=σ.mem.length:=by
 rcases h with⟨_,_,h⟩|⟨_,_,_,h3⟩
 rotate_left
 ·rw[h3,put_mem]
 rcases h with⟨_,_,_,_,h3⟩|⟨hk,t,a,x,mm,hop,hid,hb,hs,h3⟩|⟨hk,_,b,f,_,_,_,h3⟩
 ·rw[h3,put_mem]
 ·rw[h3];obtain⟨c,c0,hc,_⟩:=storeV_boxC hb hs;show mm.length=_;rw[hc,List.length_set]
 ·rw[h3,put_mem];exact List.length_set
theorem memC_keep(hm:m<=ops.size)(hS:∀i o,i<m->ops[i]? =some o->StepC ops.toList C o (v i) (rc.getD i rc0) (S i) (S (i+1)))(id:Nat):
  ∀(d e:Nat),e+d<=m->(∀s o,e<=s->s<e+d->ops[s]? =some o->(rc.getD s rc0).kd≠0->(rc.getD s rc0).id≠id)->(S (e+d)).mem[id]? =(S e).mem[id]?
 |0,e,_,_=>rfl
 |d+1,e,hle,h=>by
  rw[<-memC_keep hm hS id d e (by omega) fun s o h1 h2=>h s o h1 (by omega)];have ho:ops[e+d]? =some ops[e+d]:=AJ (by omega);exact step_mem (hS (e+d) _ (by omega) ho) id fun hw=>h (e+d) _ (by omega) (by omega) ho hw
theorem lenC(hm:m<=ops.size)(hS:∀i o,i<m->ops[i]? =some o->StepC ops.toList C o (v i) (rc.getD i rc0) (S i) (S (i+1))):∀(e:Nat),e<=m->(S e).mem.length=(S 0).mem.length
 |0,_=>rfl
 |e+1,hle=>by
  have ho:ops[e]? =some ops[e]:=AJ (by omega);rw[step_len (hS e _ (by omega) ho),lenC hm hS e (by omega)]
theorem step_tau{o:Oper}{u:Value}{r:Rc}{σ σ1:St}(h:StepC ops.toList C o u r σ σ1)(hst:isSt o.op=true->o.dst=none):σ1.τ=putT o.dst u σ.τ∧σ1.saved=σ.saved:=by
 rcases h with⟨_,_,h⟩|⟨_,_,_,h3⟩
 rotate_left
 ·rw[h3,put_tau,put_sav];exact⟨rfl,rfl⟩
 rcases h with⟨_,_,_,_,h3⟩|⟨hk,t,a,x,mm,hop,hid,hb,hs,h3⟩|⟨hk,_,b,f,_,_,hv,h3⟩
 ·rw[h3,put_tau,put_sav];exact⟨rfl,rfl⟩
 ·rw[h3,hst (by simp[isSt,hop])];exact⟨rfl,rfl⟩
 ·rw[h3,put_tau,put_sav];exact⟨rfl,rfl⟩
theorem canonC(hm:m<=ops.size)(hS:∀i o,i<m->ops[i]? =some o->StepC ops.toList C o (v i) (rc.getD i rc0) (S i) (S (i+1)))(ht:ordTextC md ops z m b0 rc=true):
  ∀(i:Nat),i<=m->Cell ops (S 0).τ v (fun j=>decide (j<i)) (S i).τ∧(S i).saved=(S 0).saved
 |0,_=>⟨⟨rfl,fun j o d _ _ h=>by simp at h,fun t _=>rfl⟩,rfl⟩
 |i+1,hi=>by
  obtain⟨h1,h2⟩:=canonC hm hS ht i (by omega);have ho:ops[i]? =some ops[i]:=AJ (by omega);obtain⟨xs,tx⟩:=textC_of ht (by omega) ho;have h3:=h1.put (L':=fun j=>decide (j<i+1)) ho (fun j oj d=>tx.one j oj d) (fun j=>by simp;omega);obtain⟨h4,h5⟩:=step_tau (hS i _ (by omega) ho) tx.std;rw[h4,h5];exact⟨h3,h2⟩
def Pn(m b0:Nat)(rc:List Rc)(listed:Array Bool)(i:Nat):Prop:=i<b0∨∃s,s<m∧(rc.getD s rc0).kd=2∧listed.getD s false=true∧(rc.getD s rc0).id=i
structure InvC(md:Region.Mode)(ops:Array Oper)(z m b0:Nat)(S:Nat->St)(v:Nat->Value)(rc:List Rc)(listed:Array Bool)(σ:St):Prop where
 size:listed.size=ops.size
 clo:Clo md ops listed
 bnd:∀j,m<=j->listed.getD j false=false
 ld:∀j,j<z->listed.getD j false=true
 cell:Cell ops (S 0).τ v (fun j=>listed.getD j false) σ.τ
 sav:σ.saved=(S 0).saved
 mem:∀id,∃e,e<=m∧σ.mem[id]? =(S e).mem[id]? ∧∀s o,s<m->ops[s]? =some o->(rc.getD s rc0).kd≠0->(rc.getD s rc0).id=id->(listed.getD s false=true↔s<e)
 len:σ.mem.length=(S 0).mem.length
 fre:∀x,x∈σ.τ->Ids (Pn m b0 rc listed) x
 frm:∀(id:Nat)(cells:List Value),σ.mem[id]? =some (some (Blk.box cells))->∀x,x∈cells->Ids (Pn m b0 rc listed) x
theorem InvC.final(hm:m<=ops.size)(hS:∀i o,i<m->ops[i]? =some o->StepC ops.toList C o (v i) (rc.getD i rc0) (S i) (S (i+1)))(ht:ordTextC md ops z m b0 rc=true){listed:Array Bool}{σ:St}(inv:InvC md ops z m b0 S v rc listed σ)
  (hall:∀i,i<m->listed.getD i false=true):σ=S m:=by
 obtain⟨c1,c2⟩:=canonC hm hS ht m (AC _);have e1:σ.τ=(S m).τ:=List.ext_getElem? fun t=>inv.cell.get c1 fun j o hj _=>by
  rcases Nat.lt_or_ge j m with h|h
  ·rw[hall j h];simp[h]
  ·rw[inv.bnd j h];simp;omega
 have e2:σ.mem=(S m).mem:=List.ext_getElem? fun id=>by
  obtain⟨e,he,h1,h2⟩:=inv.mem id;rw[h1];have:=memC_keep hm hS id (m-e) e (by omega) fun s o h3 h4 h5 h6 h7=>by
   have:=(h2 s o (by omega) h5 h6 h7).1 (hall s (by omega));omega
  rw[show e+(m-e)=m by omega]at this;exact this.symm
 have e3:σ.saved=(S m).saved:=inv.sav.trans c2.symm;cases σ;generalize S m=q at*
 cases q;simp only at e1 e2 e3;subst e1;subst e2;subst e3;rfl
theorem envC_same(hm:m<=ops.size)(hS:∀i o,i<m->ops[i]? =some o->StepC ops.toList C o (v i) (rc.getD i rc0) (S i) (S (i+1)))(ht:ordTextC md ops z m b0 rc=true){listed:Array Bool}{σ:St}(inv:InvC md ops z m b0 S v rc listed σ){i:Nat}{oi:Oper}{xs:List Operand}(hi:i<m)(tx:TextC md ops m b0 rc i oi xs)(hr:i∈Region.ready md ops listed):
  ∀x,x∈xs->env (S i).τ x=env σ.τ x:=fun x hx=>by
 obtain⟨c1,_⟩:=canonC hm hS ht i (by omega);cases x with
 |tmp t=>
  show getF _ _=getF _ _;rw[getF_eq,getF_eq,List.getD_eq_getElem?_getD,List.getD_eq_getElem?_getD];rw[c1.get inv.cell (t:=t) fun j o hj hd=>by
   rcases Nat.lt_or_ge j m with h|h
   ·obtain⟨k1,k2⟩:=tx.rd j o t h hj hd hx;have:=readyC inv.clo hr k2;rw[this];simpa using k1
   ·rw[inv.bnd j h];simp;omega]
 |const v=>rfl
 |global g=>rfl
 |func f=>rfl
theorem wanted_of{w0:World}{σ σ':St}{a:Act}{cs:List (Array Value)}{w:World}{ρ:Map}(hR:Rel w0 σ a cs w ρ){o:Oper}(hs:∀j want t,o.guard=some (j,want)->(ops[j]?).bind (·.dst)=some t->getF σ'.τ t=getF σ.τ t){b:Bool}(h:wantC ops.toList σ' o=some b):
  Region.wanted o (yielded ops a.tmps)=b:=by
 unfold wantC at h;split at h
 ·rename_i hg;cases h;simp[Region.wanted,hg]
 ·rename_i j want hg;split at h
  ·rename_i t ht;have ht':(ops[j]?).bind (·.dst)=some t:=by simpa using ht
   rw[hs j want t hg ht',getF_eq]at h;have hlt:∀v,σ.τ.getD t unk=v->v≠unk->σ.τ[t]? =some v:=by
    intro v hv hne;rw[List.getD_eq_getElem?_getD]at hv;cases hx:σ.τ[t]? with
    |none=>rw[hx]at hv;exact absurd hv.symm hne
    |some x=>rw[hx]at hv;simp at hv;rw[hv]
   have hcv:∀v,σ.τ.getD t unk=v->v≠unk->∃y,a.tmps[t]? =some y∧V ρ σ.mem.length v y:=fun v hv hne=>by
    have h1:=hlt v hv hne;have hsz:t<a.tmps.size:=by rw[<-hR.tmps.1];exact(A0.1 h1).1
    have h2:a.tmps[t]? =some a.tmps[t]:=AJ hsz;exact⟨_,h2,hR.tmps.2 t _ _ h1 h2⟩
   split at h
   ·rename_i c hc;obtain⟨y,h2,h3⟩:=hcv _ hc (by simp);cases h3;cases h;have hy:yielded ops a.tmps j=some c:=by simp[yielded,ht',h2]
    simp[Region.wanted,hg,hy]
   ·rename_i hc;obtain⟨y,h2,h3⟩:=hcv _ hc (by simp);cases h3;cases h;have hy:yielded ops a.tmps j=none:=by simp[yielded,ht',h2]
    simp[Region.wanted,hg,hy]
   ·cases h
  ·cases h
theorem least_of{p:Nat->Prop}(h:∃n,p n):∃n,p n∧∀j,j<n->¬p j:=by
 obtain⟨n,hn⟩:=h
 induction n using Nat.strongRecOn with
 |_ n ih=>
  by_cases hx:∃j,j<n∧p j
  ·obtain⟨j,hj,hp⟩:=hx;exact ih j hj hp
  ·exact⟨n,hn,fun j hj hp=>hx ⟨j,hj,hp⟩⟩
theorem ord_anyC{w0:World}(hC:CxAt C w0)(hm:m<=ops.size)(hS:∀i o,i<m->ops[i]? =some o->StepC ops.toList C o (v i) (rc.getD i rc0) (S i) (S (i+1)))(ht:ordTextC md ops z m b0 rc=true)
  (hsav:∀τ,τ∈(S 0).saved->∀x,x∈τ->Ids (fun i=>i<b0) x) (hb0:b0<=(S 0).mem.length)
  {cs:List (Array Value)} {Q:Exit->Act->World->Prop} (hQn:∀e a w,Q e a w->e=.normal) (hQ:∀a w ρ,Rel w0 (S m) a cs w ρ->wpList C.P ops Q (ops.toList.drop m) a w):
  ∀(f:Nat)(listed:Array Bool)(σ:St)(a:Act)(w:World)(ρ:Map),((List.range ops.size).filter fun i=> !listed.getD i false).length<=f->InvC md ops z m b0 S v rc listed σ->Rel w0 σ a cs w ρ->wpAny C.P md ops Q f listed a w:=by
 have fin:∀(f:Nat)(listed:Array Bool)(σ:St)(a:Act)(w:World)(ρ:Map),((List.range ops.size).filter fun i=> !listed.getD i false).length<=f->InvC md ops z m b0 S v rc listed σ->Rel w0 σ a cs w ρ->(∀i,i<m->listed.getD i false=true)->wpAny C.P md ops Q f listed a w:=by
  intro f listed σ a w ρ hf inv hR hall;refine any_chain (m:=m) (textC_split ht).1 (fun i oi hi=>⟨(textC_back ht hi).1,fun h k hk hmk=>((textC_back ht hi).2 h k hk (by have:=(textC_split ht).1;omega)).resolve_right (fun hx=>by omega)⟩) f m listed a w (AC _) hm inv.size inv.clo (fun j _=>?_) ?_ (hQ a w ρ (by rw[<-inv.final hm hS ht hall];exact hR))
  ·constructor
   ·intro h;rcases Nat.lt_or_ge j m with h1|h1
    ·exact h1
    ·rw[inv.bnd j h1]at h;cases h
   ·exact hall j
  ·refine Nat.le_trans ?_ hf;have e1:((List.range ops.size).filter fun i=>decide (m<=i)).length=ops.size-m:=by
    have:∀n,((List.range n).filter fun i=>decide (m<=i)).length=n-m:=by
     intro n
     induction n with
     |zero=>simp
     |succ n ih=>
      rw[List.range_succ,List.filter_append,AG,ih];by_cases h:m<=n
      ·simp[h];omega
      ·simp[h];omega
    exact this _
   rw[<-e1];exact Nat.le_of_eq (by
    congr 1
    refine List.filter_congr fun i _=>?_;rcases Nat.lt_or_ge i m with h|h
    ·rw[hall i h];simp;omega
    ·rw[inv.bnd i h];simp[h])
 intro f
 induction f with
 |zero=>
  intro listed σ a w ρ hf inv hR;refine fin 0 listed σ a w ρ hf inv hR fun i hi=>?_;cases hl:listed.getD i false with
  |true=>rfl
  |false=>
   exfalso;have:i∈(List.range ops.size).filter fun i=> !listed.getD i false:=List.mem_filter.2 ⟨List.mem_range.2 (by omega),by rw[hl];rfl⟩;have hz:((List.range ops.size).filter fun i=> !listed.getD i false)=[]:=List.eq_nil_of_length_eq_zero (by omega);rw[hz]at this;cases this
 |succ f ih=>
  intro listed σ a w ρ hf inv hR;by_cases hall:∀i,i<m->listed.getD i false=true
  ·exact fin (f+1) listed σ a w ρ hf inv hR hall
  have hex:∃i,i<m∧listed.getD i false=false:=by
   refine Classical.byContradiction fun hn=>hall fun i hi=>?_;cases hl:listed.getD i false with
   |true=>rfl
   |false=>exact absurd ⟨i,hi,hl⟩ hn
  by_cases hmr:m∈Region.ready md ops listed
  ·obtain⟨_,om,hom,_⟩:=mem_ready.1 hmr;have hmlt:=(A1.1 hom).1;have zle:∀j,listed.getD j false=false->z<=j:=fun j hj=>by
    rcases Nat.lt_or_ge j z with h1|h1
    ·have:=inv.ld j h1;rw[hj]at this;cases this
    ·exact h1
   obtain⟨u,⟨hum,hul⟩,hleast⟩:=least_of hex;have hlate:∀j,j<m->listed.getD j false=false->waitsC md ops m j=false∧lateC md ops z m=true∧(rc.getD j rc0).kd=0:=fun j hj hjl=>by
    rcases(textC_back ht hom).2 (AC _) j hj (zle j hjl)with hw|⟨_,h2,h3⟩
    ·have:=readyC inv.clo hmr hw;rw[hjl]at this;cases this
    ·refine⟨?_,h2,h3⟩;cases hw:waitsC md ops m j with
     |false=>rfl
     |true=>
      have:=readyC inv.clo hmr hw;rw[hjl]at this;cases this
   obtain⟨hwu,hlc,hku⟩:=hlate u hum hul;have huo:u<ops.size:=by omega
   have hou:ops[u]? =some ops[u]:=AJ huo;generalize ops[u]=ou at hou;have hl1:=List.all_eq_true.1 hlc u (List.mem_range.2 hum);have hz0:Nat.blt u z=false:=by
    cases hq:Nat.blt u z with
    |false=>rfl
    |true=>have:=Nat.le_of_ble_eq_true hq;have:=zle u hul;omega
   rw[hz0,hwu,Bool.false_or,Bool.false_or,A2]at hl1;obtain⟨hlB,hord⟩:=hl1;have hord':∀j,j<m->u<j->waitsC md ops m j=false->waitsC md ops j u=true:=fun j hj huj hw=>by
    have h1:=List.all_eq_true.1 hord j (List.mem_range.2 hj);rw[hw,Bool.or_false]at h1;rcases Bool.or_eq_true _ _▸h1 with h2|h2
    ·have:=Nat.le_of_ble_eq_true h2;omega
    ·exact h2
   unfold lateB at hlB;rw[hom,hou]at hlB;simp only[A2]at hlB;obtain⟨⟨hbs,hap⟩,hlo⟩:=hlB;have hgu:ou.guard=none:=by
    split at hlo
    ·assumption
    ·assumption
    ·cases hlo
   have hq0:∀(mem:List (Option Blk))(f:Operand->Value),evQ C true mem f ou some=evQ C false mem f ou some:=fun mem f=>by
    split at hlo
    ·rename_i h0 _;unfold evQ;rw[h0]
    ·rename_i h0 _;unfold evQ;rw[h0]
    ·cases hlo
   have hsu:∀cs b,ou.op≠.select cs b:=fun cs b hs=>by
    rw[hs]at hlo;cases hlo
   have hur:u∈Region.ready md ops listed:=mem_ready.2 ⟨by rw[in_listed inv.size huo];exact hul,_,hou,fun e he hb=>by
    have h1:=(textC_back ht hou).1 e he hb;cases hle:listed.getD e.on false with
    |true=>rfl
    |false=>exact absurd ⟨by omega,hle⟩ (hleast e.on h1)⟩
   have huu:=(mem_ready.1 hur).1;obtain⟨xs,tx⟩:=textC_of ht hum hou;have henv:=envC_same hm hS ht inv hum tx hur;have hcount:((List.range ops.size).filter fun j=> !(listed.setIfInBounds u true).getD j false).length<=f:=by
    have e1:((List.range ops.size).filter fun j=> !(listed.setIfInBounds u true).getD j false)=((List.range ops.size).filter fun j=> !listed.getD j false).erase u:=by
     rw[List.Nodup.erase_eq_filter (List.nodup_range.filter _),List.filter_filter];refine List.filter_congr fun j _=>?_;rw[Bool.eq_iff_iff];simp only[Bool.not_eq_true',A2,bne_iff_ne,ne_eq];rw[<-Bool.not_eq_true,<-Bool.not_eq_true,set_get inv.size huo];constructor
     ·intro h;exact⟨fun h1=>h (.inr h1),fun h1=>h (.inl h1)⟩
     ·rintro⟨h1,h2⟩ (h3|h3)
      ·exact h2 h3
      ·exact h1 h3
    have hmem:u∈(List.range ops.size).filter fun j=> !listed.getD j false:=List.mem_filter.2 ⟨List.mem_range.2 huo,by rw[getD_both huu];rfl⟩;rw[e1,List.length_erase_of_mem hmem];omega
   have hcell:=inv.cell.put (L':=fun j=>(listed.setIfInBounds u true).getD j false) hou (fun j oj d=>tx.one j oj d) (fun j=>set_get inv.size huo);have hst0:=hS u ou hum hou;have hpt:(rc.getD u rc0).kd=0->(∀j,Pn m b0 rc listed j->Pn m b0 rc (listed.setIfInBounds u true) j)->Ids (Pn m b0 rc (listed.setIfInBounds u true)) (v u)->InvC md ops z m b0 S v rc (listed.setIfInBounds u true) (σ.put ou.dst (v u)):=by
    intro hkd hPn hvid;have hbnd:∀j,m<=j->(listed.setIfInBounds u true).getD j false=false:=fun j hj=>by
     rw[getD_set_ne false (by omega)];exact inv.bnd j hj
    have hld:∀j,j<z->(listed.setIfInBounds u true).getD j false=true:=fun j hj=>(set_get inv.size huo).2 (.inl (inv.ld j hj));have hmm:(σ.put ou.dst (v u)).mem=σ.mem:=put_mem _ _ _;refine⟨by simp[inv.size],inv.clo.set hur,hbnd,hld,by rw[put_tau];exact hcell,by rw[put_sav];exact inv.sav,fun id=>?_,by rw[hmm];exact inv.len,
     by rw[put_tau];exact put_ids inv.fre hPn hvid,fun id cells hc x hx=>by rw[hmm]at hc;exact(inv.frm id cells hc x hx).mono hPn⟩
    obtain⟨e,he,h4,h5⟩:=inv.mem id;refine⟨e,he,by rw[hmm];exact h4,fun s o hs hso hws hids=>?_⟩;rw[set_get inv.size huo,<-h5 s o hs hso hws hids];constructor
    ·rintro(h|rfl)
     ·exact h
     ·exact absurd hkd hws
    ·exact .inl
   have hPn:∀j,Pn m b0 rc listed j->Pn m b0 rc (listed.setIfInBounds u true) j:=fun j hj=>by
    rcases hj with hj|⟨s,h1,h3,h4,h5⟩
    ·exact .inl hj
    ·exact .inr ⟨s,h1,h3,(set_get inv.size huo).2 (.inl h4),h5⟩
   rcases hst0 with⟨hw1,hst⟩|⟨hw1,_⟩
   rotate_left
   ·simp[wantC,hgu]at hw1
   have hmem:∀id,(∀s o,s<m->ops[s]? =some o->(rc.getD s rc0).kd≠0->(rc.getD s rc0).id=id->s≠u->(s<u->listed.getD s false=true)∧(u<s->listed.getD s false=false))->σ.mem[id]? =(S u).mem[id]? :=by
    intro id hw;obtain⟨e,he,h1,h2⟩:=inv.mem id;rw[h1];rcases Nat.le_total e u with hle|hle
    ·have:=memC_keep hm hS id (u-e) e (by omega) fun s o h3 h4 h5 h6 h7=>by
      have h8:=(hw s o (by omega) h5 h6 h7 (by omega)).1 (by omega);have:=(h2 s o (by omega) h5 h6 h7).1 h8;omega
     rw[show e+(u-e)=u by omega]at this;exact this.symm
    ·have:=memC_keep hm hS id (e-u) u (by omega) fun s o h3 h4 h5 h6 h7=>by
      by_cases hsi:s=u
      ·subst hsi;have:=(h2 s o (by omega) h5 h6 h7).2 (by omega);rw[getD_both huu]at this;cases this
      ·have h8:=(hw s o (by omega) h5 h6 h7 hsi).2 (by omega);have:=(h2 s o (by omega) h5 h6 h7).2 (by omega);rw[h8]at this;cases this
     rw[show u+(e-u)=e by omega]at this;exact this
   have hsr:SameR (S u).mem σ.mem (env (S u).τ) ou.op:=⟨_,hst.1,fun id hid=>hmem id fun s o hs hso hwk hids hne=>by
    rcases tx.lw s o hs hso hwk (by rw[hids];exact hid)with h0|⟨h1,h2⟩|⟨h1,h2⟩
    ·exact absurd h0.symm hne
    ·exact⟨fun _=>readyC inv.clo hur h1,fun h=>by omega⟩
    ·refine⟨fun h=>by omega,fun _=>?_⟩;cases hl:listed.getD s false with
     |false=>rfl
     |true=>
      have:=listedC inv.clo hl h1;rw[getD_both huu]at this;cases this⟩
   rcases hst.2 with⟨hkd,hnw,hv,hms,hn⟩|⟨hkd,_⟩|⟨hkd,_⟩
   ·have hv':evQ C false σ.mem (env σ.τ) ou some=some (v u):=by
     rw[<-hq0,evQ_congr (f:=env (S u).τ) (g:=env σ.τ) (mem:=(S u).mem) tx.opn hnw henv hsr some];exact hv
    obtain⟨x,cv,h1,h2,_,h4⟩:=evQ_sound hC hR.below hR.mem (fun x=>hR.tmps.env x) hv';cases h1;have hvid:Ids (Pn m b0 rc (listed.setIfInBounds u true)) (v u):=idsV_ids hms fun d hd=>by
     rcases tx.mt d hd with h|⟨j,h4,h6,h7,h8⟩
     ·exact .inl h
     ·exact .inr ⟨j,h4,h6,(set_get inv.size huo).2 (.inl (readyC inv.clo hur h7)),h8⟩
    refine any_first hQn hou hgu hsu f listed a w inv.size inv.clo (fun j oj hoj hju hjl hjw=>?_) hur (fun w' hw'=>h4 rfl w' hw') (ih _ (σ.put ou.dst (v u)) _ _ ρ hcount (hpt hkd hPn hvid) (hR.put ou.dst h2));rcases Nat.lt_trichotomy j m with hjm|rfl|hjm
    ·exfalso;have huj:u<j:=by
      rcases Nat.lt_trichotomy j u with h5|h5|h5
      ·exact absurd ⟨hjm,hjl⟩ (hleast j h5)
      ·exact absurd h5 hju
      ·exact h5
     rw[hord' j hjm huj (hlate j hjm hjl).1]at hjw;cases hjw
    ·obtain rfl:=Option.some.inj (hom.symm.trans hoj);exact⟨hap,hbs⟩
    ·exfalso;rcases(textC_back ht hoj).2 (by omega) u (by omega) (zle u hul)with h5|⟨h5,_⟩
     ·rw[h5]at hjw;cases hjw
     ·omega
   ·rw[hku]at hkd;cases hkd
   ·rw[hku]at hkd;cases hkd
  refine⟨fun h=>?_,fun i hr=>?_⟩
  ·exfalso;have hno:∀i,i<m->listed.getD i false=true:=by
    intro i
    induction i using Nat.strongRecOn with
    |_ i ihi=>
     intro hi;cases hl:listed.getD i false with
     |true=>rfl
     |false=>
      have ho:ops[i]? =some ops[i]:=AJ (by omega);have:i∈Region.ready md ops listed:=mem_ready.2 ⟨by rw[in_listed inv.size (by omega)];exact hl,_,ho,fun e he hb=>by
       have:=(textC_back ht ho).1 e he hb;exact ihi e.on this (by omega)⟩
      rw[h]at this;cases this
   exact hall hno
  obtain⟨hun,oi,hoi,_⟩:=mem_ready.1 hr;have hio:=(A1.1 hoi).1;have hi:i<m:=by
   rcases Nat.lt_or_ge i m with h|h
   ·exact h
   ·exfalso;obtain⟨j,hj,hjl⟩:=hex;have hzj:z<=j:=by
     rcases Nat.lt_or_ge j z with h1|h1
     ·have:=inv.ld j h1;rw[hjl]at this;cases this
     ·exact h1
    rcases(textC_back ht hoi).2 h j (by omega) hzj with hw|⟨hw,_⟩
    ·have:=readyC inv.clo hr hw;rw[hjl]at this;cases this
    ·subst hw;exact hmr hr
  obtain⟨xs,tx⟩:=textC_of ht hi hoi;have henv:=envC_same hm hS ht inv hi tx hr;have hcount:((List.range ops.size).filter fun j=> !(listed.setIfInBounds i true).getD j false).length<=f:=by
   have e1:((List.range ops.size).filter fun j=> !(listed.setIfInBounds i true).getD j false)=((List.range ops.size).filter fun j=> !listed.getD j false).erase i:=by
    rw[List.Nodup.erase_eq_filter (List.nodup_range.filter _),List.filter_filter];refine List.filter_congr fun j _=>?_;rw[Bool.eq_iff_iff];simp only[Bool.not_eq_true',A2,bne_iff_ne,ne_eq];rw[<-Bool.not_eq_true,<-Bool.not_eq_true,set_get inv.size hio];constructor
    ·intro h;exact⟨fun h1=>h (.inr h1),fun h1=>h (.inl h1)⟩
    ·rintro⟨h1,h2⟩ (h3|h3)
     ·exact h2 h3
     ·exact h1 h3
   have hmem:i∈(List.range ops.size).filter fun j=> !listed.getD j false:=List.mem_filter.2 ⟨List.mem_range.2 hio,by rw[getD_both hun];rfl⟩;rw[e1,List.length_erase_of_mem hmem];omega
  have hcell:=inv.cell.put (L':=fun j=>(listed.setIfInBounds i true).getD j false) hoi (fun j oj d=>tx.one j oj d) (fun j=>set_get inv.size hio);have hst0:=hS i oi hi hoi;have hpt:(rc.getD i rc0).kd=0->(∀j,Pn m b0 rc listed j->Pn m b0 rc (listed.setIfInBounds i true) j)->Ids (Pn m b0 rc (listed.setIfInBounds i true)) (v i)->InvC md ops z m b0 S v rc (listed.setIfInBounds i true) (σ.put oi.dst (v i)):=by
   intro hkd hPn hvid;have hbnd:∀j,m<=j->(listed.setIfInBounds i true).getD j false=false:=fun j hj=>by
    rw[getD_set_ne false (by omega)];exact inv.bnd j hj
   have hld:∀j,j<z->(listed.setIfInBounds i true).getD j false=true:=fun j hj=>(set_get inv.size hio).2 (.inl (inv.ld j hj));have hmm:(σ.put oi.dst (v i)).mem=σ.mem:=put_mem _ _ _;refine⟨by simp[inv.size],inv.clo.set hr,hbnd,hld,by rw[put_tau];exact hcell,by rw[put_sav];exact inv.sav,fun id=>?_,by rw[hmm];exact inv.len,
    by rw[put_tau];exact put_ids inv.fre hPn hvid,fun id cells hc x hx=>by rw[hmm]at hc;exact(inv.frm id cells hc x hx).mono hPn⟩
   obtain⟨e,he,h4,h5⟩:=inv.mem id;refine⟨e,he,by rw[hmm];exact h4,fun s o hs hso hws hids=>?_⟩;rw[set_get inv.size hio,<-h5 s o hs hso hws hids];constructor
   ·rintro(h|rfl)
    ·exact h
    ·exact absurd hkd hws
   ·exact .inl
  have hPn:∀j,Pn m b0 rc listed j->Pn m b0 rc (listed.setIfInBounds i true) j:=fun j hj=>by
   rcases hj with hj|⟨s,h1,h3,h4,h5⟩
   ·exact .inl hj
   ·exact .inr ⟨s,h1,h3,(set_get inv.size hio).2 (.inl h4),h5⟩
  have hwd:∀b,wantC ops.toList (S i) oi=some b->Region.wanted oi (yielded ops a.tmps)=b:=fun b hb=>wanted_of hR (fun j want t hg hbt=>by
   obtain⟨c1,_⟩:=canonC hm hS ht (i:=i) (by omega);obtain⟨k1,k2⟩:=tx.guard j want hg;rw[getF_eq,getF_eq,List.getD_eq_getElem?_getD,List.getD_eq_getElem?_getD];rw[c1.get inv.cell (t:=t) fun j' o' hj' hd=>by
    have hoj:ops[j]? =some ops[j]:=AJ (by omega);obtain⟨ys,ty⟩:=textC_of ht (i:=j) (by omega) hoj;have:j=j':=ty.one j' o' t hj' hd (by rw[hoj]at hbt;simpa using hbt);subst this;rw[readyC inv.clo hr k2];simpa using k1]) hb
  rcases hst0 with⟨hw1,hst⟩|⟨hw1,hrc,hvv,_⟩
  rotate_left
  ·have hwant:=hwd _ hw1;unfold wpOp;simp only[hoi];rw[AL (by rw[hwant];simp)];have h1:=hR.put oi.dst (x:=v i) (y:=undef) (by rw[hvv];exact .tuple rfl fun i x y hx hy=>by simp at hx);exact ih _ (σ.put oi.dst (v i)) _ _ ρ hcount (hpt (by rw[hrc];rfl) hPn (by rw[hvv];exact .tuple fun i x hx=>by simp at hx)) h1
  have hwant:=hwd _ hw1;have hmem:∀id,(∀s o,s<m->ops[s]? =some o->(rc.getD s rc0).kd≠0->(rc.getD s rc0).id=id->s≠i->(s<i->listed.getD s false=true)∧(i<s->listed.getD s false=false))->σ.mem[id]? =(S i).mem[id]? :=by
   intro id hw;obtain⟨e,he,h1,h2⟩:=inv.mem id;rw[h1];rcases Nat.le_total e i with hle|hle
   ·have:=memC_keep hm hS id (i-e) e (by omega) fun s o h3 h4 h5 h6 h7=>by
     have h8:=(hw s o (by omega) h5 h6 h7 (by omega)).1 (by omega);have:=(h2 s o (by omega) h5 h6 h7).1 h8;omega
    rw[show e+(i-e)=i by omega]at this;exact this.symm
   ·have:=memC_keep hm hS id (e-i) i (by omega) fun s o h3 h4 h5 h6 h7=>by
     by_cases hsi:s=i
     ·subst hsi;have:=(h2 s o (by omega) h5 h6 h7).2 (by omega);rw[getD_both hun]at this;cases this
     ·have h8:=(hw s o (by omega) h5 h6 h7 hsi).2 (by omega);have:=(h2 s o (by omega) h5 h6 h7).2 (by omega);rw[h8]at this;cases this
    rw[show i+(e-i)=e by omega]at this;exact this
  have hsr:SameR (S i).mem σ.mem (env (S i).τ) oi.op:=⟨_,hst.1,fun id hid=>hmem id fun s o hs hso hwk hids hne=>by
   rcases tx.lw s o hs hso hwk (by rw[hids];exact hid)with h0|⟨h1,h2⟩|⟨h1,h2⟩
   ·exact absurd h0.symm hne
   ·exact⟨fun _=>readyC inv.clo hr h1,fun h=>by omega⟩
   ·refine⟨fun h=>by omega,fun _=>?_⟩;cases hl:listed.getD s false with
    |false=>rfl
    |true=>
     have:=listedC inv.clo hl h1;rw[getD_both hun]at this;cases this⟩
  unfold wpOp;simp only[hoi];rw[AM hwant]
  left
  have hwr:(rc.getD i rc0).kd≠0->∀s o,s<m->ops[s]? =some o->(rc.getD s rc0).kd≠0->(rc.getD s rc0).id=(rc.getD i rc0).id->s≠i->(s<i->listed.getD s false=true)∧(i<s->listed.getD s false=false):=by
   intro hwi s o hs hso hws hids hne;refine⟨fun hlt=>readyC inv.clo hr (tx.ww s o hs hso hwi hws hlt hids.symm),fun hlt=>?_⟩;obtain⟨ys,ty⟩:=textC_of ht hs hso;cases hl:listed.getD s false with
   |false=>rfl
   |true=>
    have:=listedC inv.clo hl (ty.ww i oi hi hoi hws hwi hlt hids);rw[getD_both hun]at this;cases this
  have hnew:∀(mem1:List (Option Blk)),(rc.getD i rc0).kd≠0->mem1[(rc.getD i rc0).id]? =(S (i+1)).mem[(rc.getD i rc0).id]? ->(∀id,id≠(rc.getD i rc0).id->mem1[id]? =σ.mem[id]?)->
    ∀id,∃e,e<=m∧mem1[id]? =(S e).mem[id]? ∧∀s o,s<m->ops[s]? =some o->(rc.getD s rc0).kd≠0->(rc.getD s rc0).id=id->((listed.setIfInBounds i true).getD s false=true↔s<e):=by
   intro mem1 hwi h1 h2 id;by_cases hide:id=(rc.getD i rc0).id
   ·subst hide;refine⟨i+1,by omega,h1,fun s o hs hso hws hids=>?_⟩;rw[set_get inv.size hio];by_cases hsi:s=i
    ·exact⟨fun _=>by omega,fun _=>.inr hsi⟩
    ·obtain⟨k1,k2⟩:=hwr hwi s o hs hso hws hids hsi;constructor
     ·rintro(h|h)
      ·rcases Nat.lt_or_ge i s with h3|h3
       ·rw[k2 h3]at h;cases h
       ·omega
      ·omega
     ·intro h;exact .inl (k1 (by omega))
   ·obtain⟨e,he,h3,h4⟩:=inv.mem id;refine⟨e,he,by rw[h2 id hide,h3],fun s o hs hso hws hids=>?_⟩;rw[set_get inv.size hio,<-h4 s o hs hso hws hids];constructor
    ·rintro(h|h)
     ·exact h
     ·exact absurd (by rw[<-hids,h]) hide
    ·exact .inl
  have hbnd:∀j,m<=j->(listed.setIfInBounds i true).getD j false=false:=fun j hj=>by
   rw[getD_set_ne false (by omega)];exact inv.bnd j hj
  have hld:∀j,j<z->(listed.setIfInBounds i true).getD j false=true:=fun j hj=>(set_get inv.size hio).2 (.inl (inv.ld j hj));rcases hst.2 with⟨hkd,hnw,hv,hms,hn⟩|⟨hkd,t,x,y,mm,hop,hidx,hb,hs,hn⟩|⟨hkd,hnst,b,f,hbk,hdead,hvi,hn⟩
  ·
   have hv':evQ C true σ.mem (env σ.τ) oi some=some (v i):=by
    rw[evQ_congr (f:=env (S i).τ) (g:=env σ.τ) (mem:=(S i).mem) tx.opn hnw henv hsr some];exact hv
   obtain⟨u,cv,h1,h2,h3,_⟩:=evQ_sound hC hR.below hR.mem (fun x=>hR.tmps.env x) hv';cases h1;refine wp_of_quiet (h3 w (Below.refl _ _)) (Below.refl _ _) fun w' hw'=>?_;refine ih _ (σ.put oi.dst (v i)) _ _ ρ hcount ?_ ((hR.put oi.dst h2).later hw');have hmm:(σ.put oi.dst (v i)).mem=σ.mem:=put_mem _ _ _;have hvid:Ids (Pn m b0 rc (listed.setIfInBounds i true)) (v i):=idsV_ids hms fun d hd=>by
    rcases tx.mt d hd with h|⟨j,h4,h6,h7,h8⟩
    ·exact .inl h
    ·exact .inr ⟨j,h4,h6,(set_get inv.size hio).2 (.inl (readyC inv.clo hr h7)),h8⟩
   refine⟨by simp[inv.size],inv.clo.set hr,hbnd,hld,by rw[put_tau];exact hcell,by rw[put_sav];exact inv.sav,fun id=>?_,by rw[hmm];exact inv.len,
    by rw[put_tau];exact put_ids inv.fre hPn hvid,fun id cells hc x hx=>by rw[hmm]at hc;exact(inv.frm id cells hc x hx).mono hPn⟩
   obtain⟨e,he,h4,h5⟩:=inv.mem id;refine⟨e,he,by rw[hmm];exact h4,fun s o hs hso hws hids=>?_⟩;rw[set_get inv.size hio,<-h5 s o hs hso hws hids];constructor
   ·rintro(h|rfl)
    ·exact h
    ·exact absurd hkd hws
   ·exact .inl
  ·
   have hsi:isSt oi.op=true:=by simp[isSt,hop]
   have hwi:(rc.getD i rc0).kd≠0:=by omega
   have hxs:=tx.opn;rw[hop]at hxs;simp only[opndsC,A5]at hxs;subst hxs;have hsame:σ.mem[idOf (env (S i).τ x)]? =(S i).mem[idOf (env (S i).τ x)]? :=hmem _ fun s o hso hsop hws hids hne=>hwr hwi s o hso hsop hws (by rw[hids,hidx]) hne;obtain⟨c,c0,hc1,hc2,hc0,hcc⟩:=storeV_boxC hb hs;have hs':=hc2 σ.mem hsame;rw[henv x (by simp),henv y (by simp)]at hs';obtain⟨w',ρ1,k1,k2,k3,k4,k5⟩:=storeV_sound hs' hR.mem (hR.tmps.env x) (hR.tmps.env y);have hrun:(execOp a.eval oi).run C.P w=.ok .skip w':=by simp[execOp,hop,k1]
   unfold Oper.wp;rw[hrun];rw[<-henv x (by simp)]at k2 k3;have hR1:=hR.mono (k5 w0 hR.below) k2 (by omega) (fun id _=>k4 id);have hd:=tx.std hsi;show wpAny C.P md ops Q f (listed.setIfInBounds i true) (a.put oi.dst undef) w';rw[hd];have hlt:idOf (env (S i).τ x)<σ.mem.length:=(A0.1 (hsame.trans hc0)).1;have hlt':idOf (env (S i).τ x)<(S i).mem.length:=(A0.1 hc0).1;refine ih _ {σ with mem:=σ.mem.set (idOf (env (S i).τ x)) (some (.box c))} a w' ρ1 hcount ?_ hR1;rw[hd]at hcell;refine⟨by simp[inv.size],inv.clo.set hr,hbnd,hld,hcell,inv.sav,hnew _ hwi ?_ ?_,by show(σ.mem.set _ _).length=_;rw[List.length_set];exact inv.len,fun z hz=>(inv.fre z hz).mono hPn,fun id cells hcl z hz=>?_⟩
   ·rw[hidx,List.getElem?_set_self hlt,hn];show _=mm[_]?;rw[hc1,List.getElem?_set_self hlt']
   ·intro id hne;rw[hidx]at hne;rw[List.getElem?_set_ne (fun h=>hne h.symm)]
   ·by_cases he:idOf (env (S i).τ x)=id
    ·subst he;have hcl:(σ.mem.set _ _)[idOf (env (S i).τ x)]? =_:=hcl;rw[List.getElem?_set_self hlt]at hcl;cases hcl;rcases hcc z hz with h|h
     ·exact(inv.frm _ c0 (hsame.trans hc0) z h).mono hPn
     ·rw[henv y (by simp)]at h;exact(lcells_ids (env_ids inv.fre y) z h).mono hPn
    ·have hcl:(σ.mem.set _ _)[id]? =_:=hcl;rw[List.getElem?_set_ne he]at hcl;exact(inv.frm id cells hcl z hz).mono hPn
  ·
   have hwi:(rc.getD i rc0).kd≠0:=by omega
   have hbk':mkBlk C σ.mem (env σ.τ) oi.op=some (true,b,f)∨viewSl C.P σ.mem (env σ.τ) oi.op=some (b,f):=by
    rcases hbk with hbk|hbk
    ·exact .inl (by rw[mkBlk_congr tx.opn henv hsr];exact hbk)
    ·exact .inr (by rw[viewSl_congr tx.opn henv hsr];exact hbk)
   have hnd:∀ks r hh,b≠.deep ks r hh:=by
    rcases hbk' with h|h
    ·exact mkBlk_nd h
    ·obtain⟨_,⟨ks,r,rfl⟩|⟨_,_,_,_,_,rfl⟩,_⟩:=viewSl_load h
     ·exact fun _ _ _ h=>by cases h
     ·exact fun _ _ _ h=>by cases h
   have hids:∀{p:Nat->Prop}(_:∀x,x∈σ.τ->Ids p x){cells:List Value},b=.box cells->∀y,y∈cells->Ids p y:=by
    intro p hp cells hbc y hy;rcases hbk' with h|h
    ·subst hbc;exact mkBlk_ids hp h y hy
    ·obtain⟨_,⟨ks,r,rfl⟩|⟨_,_,_,_,_,rfl⟩,_⟩:=viewSl_load h
     ·cases hbc
     ·cases hbc
   have hfv:f=ptr0∨(∃n,f=sl0 n)∨f=fun _=>.slice none 0 0:=by
    rcases hbk' with h|h
    ·exact mkBlk_val h
    ·exact .inr (.inl (viewSl_load h).2.2)
   have hmake:∀K:Act->World->Prop,(∀a1 w1 ρ1,Rel w0 (σ.new oi.dst f b) a1 cs w1 ρ1->K a1 w1)->oi.wp C.P a w K Q:=by
    intro K hK;rcases hbk' with h|h
    ·have hnone:InlOk (α:=St) C w0 (fun _ _ _ _=>none):=fun f args σ k r h=>by cases h
     refine evEff_sound (α:=St) hC hnone hR (k:=some) (r:=σ.new oi.dst f b) (fun hc=>absurd hc (mkBlk_nc h)) (by rw[evEff_mk h];rfl) fun σ1 a1 w1 ρ1 hR1 hk=>?_;cases hk;exact hK _ _ _ hR1
    ·obtain⟨cv,ρ1,k1,k2⟩:=hR.view (viewSl_load h).1;unfold Oper.wp;rw[k2 w (Below.refl _ _)];exact hK _ _ _ k1
   have hdead':σ.mem[(rc.getD i rc0).id]? =some none:=by
    rw[hmem _ fun s o hso hsop hws hids hne=>hwr hwi s o hso hsop hws hids hne];exact hdead
   generalize hidn:(rc.getD i rc0).id=idn at*
   refine hmake _ fun a1 w1 ρ1 hR1=>?_;have hmm:(σ.new oi.dst f b).mem=σ.mem++[some b]:=by unfold St.new;rw[put_mem]
   have hsv:(σ.new oi.dst f b).saved=σ.saved:=by unfold St.new;rw[put_sav]
   have htt:(σ.new oi.dst f b).τ=putT oi.dst (f σ.mem.length) σ.τ:=by unfold St.new;rw[put_tau]
   have hnlt:idn<σ.mem.length:=(A0.1 hdead').1;have hoth:∀j,Pn m b0 rc listed j->j≠idn∧j<σ.mem.length:=fun j hj=>by
    rcases hj with hj|⟨s,h1,h3,h4,h5⟩
    ·refine⟨fun he=>?_,?_⟩
     ·have:=tx.nw hkd;omega
     ·rw[inv.len];omega
    ·have h2:ops[s]? =some ops[s]:=AJ (by omega);refine⟨fun he=>?_,?_⟩
     ·have:=tx.kk s _ h1 h2 hkd h3 (by rw[hidn,h5,he]);subst this;rw[getD_both hun]at h4;cases h4
     ·rcases hS s _ h1 h2 with⟨_,_,⟨k1,_⟩|⟨k1,_⟩|⟨_,_,_,_,_,k1,_⟩⟩|⟨_,k1,_⟩
      ·omega
      ·omega
      rotate_left
      ·rw[k1]at h3;cases h3
      ·have:=(A0.1 k1).1;rw[lenC hm hS s (by omega),<-inv.len,h5]at this;exact this
   obtain⟨L,hL,_⟩:=hR1.mem.blk σ.mem.length b (by rw[hmm];simp);have hmv:=(hmm▸hR1.mem:MemR (σ.mem++[some b]) ρ1 w0.heap.size w1).move hnd hdead' hL (fun j cells hcl z hz=>by
    rcases Nat.lt_or_ge j σ.mem.length with h|h
    ·rw[AQ h]at hcl;exact(inv.frm j cells hcl z hz).mono hoth
    ·rw[List.getElem?_append_right h]at hcl;have h0:j-σ.mem.length=0:=by
      have:=(A0.1 hcl).1;simp at this;omega
     rw[h0]at hcl;simp at hcl;subst hcl;exact(hids inv.fre rfl z hz).mono hoth)
   have hsw:∀{x y:Value},Ids (Pn m b0 rc listed) x->V ρ1 (σ.new oi.dst f b).mem.length x y->V (fun i=>if i=idn then some L else if i<σ.mem.length then ρ1 i else none) (σ.mem.set idn (some b)).length x y:=fun hx hxy=>by
    refine hxy.swap (hx.mono fun j hj=>?_);obtain⟨h1,h2⟩:=hoth j hj;exact⟨by simp only[h1,if_false,h2,if_true],by rw[List.length_set];exact h2⟩
   have hval:∀{y:Value},V ρ1 (σ.new oi.dst f b).mem.length (f σ.mem.length) y->V (fun i=>if i=idn then some L else if i<σ.mem.length then ρ1 i else none) (σ.mem.set idn (some b)).length (f idn) y:=fun{y} hy=>by
    have hid':(fun i=>if i=idn then some L else if i<σ.mem.length then ρ1 i else none) idn=some L:=by simp
    have hlt':idn<(σ.mem.set idn (some b)).length:=by rw[List.length_set];exact hnlt
    rcases hfv with rfl|⟨n,rfl⟩|rfl
    ·unfold ptr0 at hy⊢;cases hy with
     |ptrDead _ h2=>rw[hL]at h2;cases h2
     |ptr _ h2 h3=>
      rw[hL]at h2;cases h2;exact .ptr hlt' hid' h3
    ·unfold sl0 at hy⊢;cases hy with
     |sliceDead _ h2=>rw[hL]at h2;cases h2
     |slice _ h2 h3 h4 h5 h6=>
      rw[hL]at h2;cases h2;exact .slice hlt' hid' h3 h4 h5 h6
    ·cases hy;exact .sliceNil
   have hPi:∀j,j=idn->Pn m b0 rc (listed.setIfInBounds i true) j:=fun j hj=>.inr ⟨i,hi,hkd,(set_get inv.size hio).2 (.inr rfl),by rw[hidn,hj]⟩;have hR2:Rel w0 (({σ with mem:=σ.mem.set idn (some b)}:St).put oi.dst (f idn)) a1 cs w1 (fun i=>if i=idn then some L else if i<σ.mem.length then ρ1 i else none):=by
    refine⟨hR1.defers,?_,?_,hR1.below,by rw[put_mem];exact hmv⟩
    ·rw[put_tau,put_mem];have ht1:=hR1.tmps;rw[htt]at ht1;refine⟨by rw[<-ht1.1];unfold putT;cases oi.dst<;>simp,fun t x y hx hy=>?_⟩;cases hd:oi.dst with
     |none=>
      have e:putT oi.dst (f σ.mem.length) σ.τ=σ.τ:=by unfold putT;rw[hd]
      have e':putT oi.dst (f idn) σ.τ=σ.τ:=by unfold putT;rw[hd]
      rw[e]at ht1;rw[e']at hx;exact hsw (inv.fre x (List.mem_of_getElem? hx)) (ht1.2 t x y hx hy)
     |some d=>
      have e:putT oi.dst (f σ.mem.length) σ.τ=σ.τ.set d (f σ.mem.length):=by unfold putT;rw[hd]
      have e':putT oi.dst (f idn) σ.τ=σ.τ.set d (f idn):=by unfold putT;rw[hd]
      rw[e]at ht1;rw[e']at hx;by_cases hdt:d=t
      ·subst hdt;have hlt:d<σ.τ.length:=by
        rcases Nat.lt_or_ge d σ.τ.length with h|h
        ·exact h
        ·rw[List.getElem?_eq_none (by simpa using h)]at hx;cases hx
       rw[List.getElem?_set_self hlt]at hx;cases hx;exact hval (ht1.2 d _ y (List.getElem?_set_self hlt) hy)
      ·rw[List.getElem?_set_ne hdt]at hx;exact hsw (inv.fre x (List.mem_of_getElem? hx)) (ht1.2 t x y (by rw[List.getElem?_set_ne hdt];exact hx) hy)
    ·rw[put_sav,put_mem];show TmpsR _ _ σ.saved cs;have hs1:=hR1.saved;rw[hsv]at hs1;have hfr:∀τ,τ∈σ.saved->∀x,x∈τ->Ids (Pn m b0 rc listed) x:=fun τ hτ x hx=>(hsav τ (inv.sav▸hτ) x hx).mono fun j hj=>.inl hj;exact tmps_swap (fun τ hτ x y hx hxy=>hsw (hfr τ hτ x hx) hxy) hs1
   refine ih _ _ a1 w1 _ hcount ?_ hR2;refine⟨by simp[inv.size],inv.clo.set hr,hbnd,hld,by rw[put_tau,<-hvi];exact hcell,by rw[put_sav];exact inv.sav,?_,by rw[put_mem];show(σ.mem.set _ _).length=_;rw[List.length_set];exact inv.len,
    ?_,fun id cells hcl z hz=>?_⟩
   ·rw[put_mem];refine hnew _ hwi ?_ ?_
    rotate_left
    ·intro id hne;show(σ.mem.set idn (some b))[id]? =_;rw[List.getElem?_set_ne (fun h=>hne h.symm)]
    ·rw[hn,put_mem];show(σ.mem.set idn (some b))[idn]? =((S i).mem.set idn (some b))[idn]?;rw[List.getElem?_set_self hnlt,List.getElem?_set_self (A0.1 hdead).1]
   ·rw[put_tau];refine put_ids inv.fre hPn ?_;rcases hfv with rfl|⟨n,rfl⟩|rfl
    ·exact .ptr (hPi _ rfl)
    ·exact .slice (hPi _ rfl)
    ·exact .sliceNil
   ·rw[put_mem]at hcl;have hcl:(σ.mem.set idn (some b))[id]? =some (some (.box cells)):=hcl;by_cases he:idn=id
    ·subst he;rw[List.getElem?_set_self hnlt]at hcl;simp at hcl;subst hcl;exact(hids inv.fre rfl z hz).mono hPn
    ·rw[List.getElem?_set_ne he]at hcl;exact(inv.frm id cells hcl z hz).mono hPn
def lz(ops:Array Oper):Nat->Array Bool
 |0=>Array.replicate ops.size false
 |k+1=>(lz ops k).setIfInBounds k true
theorem lz_size(ops:Array Oper):∀k,(lz ops k).size=ops.size
 |0=>by simp[lz]
 |k+1=>by simp[lz,lz_size ops k]
theorem lz_get(ops:Array Oper):∀(k:Nat),k<=ops.size->∀j,(lz ops k).getD j false=decide (j<k)
 |0,_,j=>by unfold lz;rw[getD_replicate_false];simp
 |k+1,hk,j=>by
  have h1:=set_get (j:=j) (lz_size ops k) (i:=k) (by omega);rw[lz_get ops k (by omega) j]at h1;rw[Bool.eq_iff_iff];show((lz ops k).setIfInBounds k true).getD j false=true↔_;rw[h1];simp;omega
theorem leadB_spec{i:Nat}(h:leadB md ops i=true):∃oi x,ops[i]? =some oi∧oi.op=.move x∧oi.guard=none∧oi.after= #[]∧∀j oj,ops[j]? =some oj->j≠i->waitsC md ops j i=false->oi.apart ops oj=true:=by
 unfold leadB at h;split at h
 ·rename_i oi hoi;rw[A2,A2]at h;obtain⟨⟨h1,h2⟩,h3⟩:=h;split at h1
  ·rename_i x ho hg;refine⟨oi,x,hoi,ho,hg,by simpa using h2,fun j oj hj hji hw=>?_⟩;have:=List.all_eq_true.1 h3 j (List.mem_range.2 (A1.1 hj).1);rw[hw,hj]at this;simp only[Bool.or_false,Bool.or_eq_true]at this;rcases this with h|h
   ·exact absurd (AF h) hji
   ·exact h
  ·cases h1
 ·cases h
theorem lead_ready{k:Nat}(hk:k<ops.size){oi:Oper}(hi:ops[k]? =some oi)(ha:oi.after= #[]):k∈Region.ready md ops (lz ops k):=by
 refine mem_ready.2 ⟨?_,oi,hi,fun e he=>by rw[ha]at he;simp at he⟩;rw[in_listed (lz_size ops k) hk,lz_get ops k (by omega)];simp
theorem lz_clo:∀(k:Nat),(∀i,i<k->leadB md ops i=true)->Clo md ops (lz ops k)
 |0,_=>Clo.none
 |k+1,h=>by
  obtain⟨oi,x,h1,_,_,h4,_⟩:=leadB_spec (h k (by omega));exact(lz_clo k fun i hi=>h i (by omega)).set (lead_ready (A1.1 h1).1 h1 h4)
theorem step_move{i:Nat}{oi:Oper}{x:Operand}(hop:oi.op=.move x)(hg:oi.guard=none){r:Rc}{u:Value}{σ σ1:St}(h:StepC ops.toList C oi u r σ σ1):r.kd=0∧u=env σ.τ x∧σ1=σ.put oi.dst u:=by
 rcases h with⟨_,_,h⟩|⟨hw,_⟩
 rotate_left
 ·simp[wantC,hg]at hw
 rcases h with⟨k1,_,hv,_,h3⟩|⟨_,t,a,y,mm,ho,_⟩|⟨_,_,b,f,hb,_⟩
 ·refine⟨k1,?_,h3⟩;unfold evQ at hv;rw[hop]at hv;simp only[evPure,hop,A5]at hv;exact hv.symm
 ·rw[hop]at ho;cases ho
 ·rw[hop]at hb;rcases hb with hb|hb
  ·simp[mkBlk]at hb
  ·simp[viewSl]at hb
theorem lead_all{w0:World}(hm:m<=ops.size)(hS:∀i o,i<m->ops[i]? =some o->StepC ops.toList C o (v i) (rc.getD i rc0) (S i) (S (i+1)))(hzm:z<=m)(hl:∀i,i<z->leadB md ops i=true){cs:List (Array Value)}{Q:Exit->Act->World->Prop}(hQ:∀e a w,Q e a w->e=.normal)
  (hsel:∀(j:Nat)(o:Oper) cs b,ops[j]? =some o->o.op≠.select cs b) {w:World} {ρ:Map} (H:∀a,Rel w0 (S z) a cs w ρ->wpAny C.P md ops Q (ops.size-z) (lz ops z) a w):
  ∀(d:Nat),d<=z->∀a,Rel w0 (S (z-d)) a cs w ρ->wpAny C.P md ops Q (ops.size-(z-d)) (lz ops (z-d)) a w
 |0,_,a,hR=>H a hR
 |d+1,hd,a,hR=>by
  obtain⟨oi,x,h1,h2,h3,h4,h5⟩:=leadB_spec (hl (z-(d+1)) (by omega));have hlt:=(A1.1 h1).1;have hs:=hS _ oi (by omega) h1;obtain⟨_,k2,k3⟩:=step_move (i:=z-(d+1)) h2 h3 hs;have e1:z-(d+1)+1=z-d:=by omega
  have e2:ops.size-(z-(d+1))=ops.size-(z-d)+1:=by omega
  rw[e2];refine any_lead hQ hsel h1 h2 h3 h5 _ _ a w (lz_size ops _) (lz_clo _ fun i hi=>hl i (by omega)) (lead_ready hlt h1 h4) rfl ?_;have hnext:=lead_all hm hS hzm hl hQ hsel H d (by omega) (a.put oi.dst (a.eval x)) (by
   rw[<-e1,k3];refine hR.put oi.dst ?_;rw[k2];exact hR.tmps.env x)
  rw[<-e1]at hnext⊢;exact hnext
end order
theorem chainN_le(md:Region.Mode)(ops:Array Oper)(z:Nat):∀j,chainN md ops z j<=j
 |0=>AC _
 |j+1=>by
  unfold chainN;split
  ·exact Nat.le_succ_of_le (chainN_le md ops z j)
  ·exact AC _
theorem leadN_le(md:Region.Mode)(ops:Array Oper):∀(n i:Nat),i<=ops.size->leadN md ops n i<=ops.size
 |0,i,hi=>hi
 |n+1,i,hi=>by
  unfold leadN;split
  ·rename_i h;obtain⟨oi,_,h1,_⟩:=leadB_spec h;exact leadN_le md ops n (i+1) (A1.1 h1).1
  ·exact hi
theorem chainM_le(md:Region.Mode)(ops:Array Oper)(n:Nat):chainM md ops (leadN md ops n 0)<=ops.size:=
 Nat.max_le.2 ⟨chainN_le _ _ _ _,leadN_le _ _ _ _ (Nat.zero_le _)⟩
theorem chainL_le(P:Program)(md:Region.Mode)(ops:Array Oper)(n:Nat):chainL P md ops (leadN md ops n 0)<=ops.size:=by
 have h:=chainM_le md ops n;unfold chainL;split
 ·exact Nat.zero_le _
 ·rename_i n' e;rw[e]at h;split
  ·omega
  ·exact h
theorem wp_region_ordC{C:Cx}{w0:World}(hC:CxAt C w0){id:Nat}{ops:Array Oper}{z m n:Nat}(hm:m<=ops.size){σ:St}{cs:List (Array Value)}{a:Act}{w:World}{ρ:Map}{Q:Exit->Act->World->Prop}{α:Type}{k:St->Option α}{r:α}
  (h:ordRunC C ops.toList (ops.toList.take m) σ.mem.length {σ with mem:=σ.mem++List.replicate n none} [] (fun σ1 rc=>match Region.noSelect ops&&ordTextC .any ops z m σ.mem.length rc with|true=>k σ1|false=>none)=some r) (hR:Rel w0 σ a cs w ρ)
  (hQ:∀σ1 a1 w1 ρ1,Rel w0 σ1 a1 cs w1 ρ1->k σ1=some r->wpList C.P ops (fun e a w=>e=.normal∧Q .normal a w) (ops.toList.drop m) a1 w1):(Code.region id ops true).wp C.P Q a w:=by
 obtain⟨S,v,rc,h0,h1,_,h4⟩:=ordRunC_spec _ _ _ _ h;have hl:(ops.toList.take m).length=m:=by simp;omega
 have hget:∀i o,i<m->ops[i]? =some o->(ops.toList.take m)[i]? =some o:=fun i o hi ho=>by
  rw[List.getElem?_take_of_lt hi];simpa using ho
 rw[hl]at h4;split at h4
 ·rename_i ht;rw[A2]at ht;obtain⟨hsel,ht⟩:=ht;have h1':∀i o,i<m->ops[i]? =some o->StepC ops.toList C o (v i) (rc.getD i rc0) (S i) (S (i+1)):=fun i o hi ho=>by simpa using h1 i o (hget i o hi ho)
  have hR0:Rel w0 {σ with mem:=σ.mem++List.replicate n none} a cs w ρ:=hR.mono hR.below (hR.mem.kept n) (by simp) (fun _ _=>.inl rfl);have hsav:∀τ,τ∈σ.saved->∀x,x∈τ->Ids (fun i=>i<σ.mem.length) x:=tmps_ids hR.saved;obtain⟨hzm,hlead⟩:=textC_split ht;refine Code.wp_mono (Q:=fun e a w=>e=.normal∧Q .normal a w) (fun e a w he=>by obtain⟨rfl,he⟩:=he;exact he) ?_;refine wp_region_any hC.mixed ?_;have hcore:=lead_all (w0:=w0) (C:=C) hm h1' hzm hlead (cs:=cs) (Q:=fun e a w=>e=.normal∧Q .normal a w) (w:={w with drawn:=w.drawn+1}) (ρ:=ρ) (fun e a w he=>he.1) (Region.noSelect_spec hsel) (fun a1 hRz=>by
   refine ord_anyC (b0:=σ.mem.length) hC hm h1' ht (by rw[h0];exact hsav) (by rw[h0];simp) (fun e a w he=>he.1) (fun a1 w1 ρ1 hR1=>hQ _ a1 w1 ρ1 hR1 (by simpa using h4)) _ _ _ a1 _ ρ ?_ ?_ hRz
   ·have hcnt:∀n,n<=ops.size->((List.range n).filter fun i=> !(lz ops z).getD i false).length=n-z:=by
     intro n
     induction n with
     |zero=>intro _;simp
     |succ n ih=>
      intro hn;rw[List.range_succ,List.filter_append,AG,ih (by omega)];by_cases h:n<z
      ·simp[lz_get ops z (by omega),h];omega
      ·simp[lz_get ops z (by omega),h];omega
    rw[hcnt ops.size (AC _)];exact AC _
   ·
    have hinit:∀k,k<=z->(S k).mem=(S 0).mem∧∀x,x∈(S k).τ->Ids (fun i=>i<σ.mem.length) x:=by
     intro k
     induction k with
     |zero=>
      intro _;refine⟨rfl,fun x hx=>?_⟩;rw[h0]at hx;exact tmp_ids hR.tmps x hx
     |succ k ih=>
      intro hk;obtain⟨i1,i2⟩:=ih (by omega);obtain⟨oi,x,g1,g2,gg,_⟩:=leadB_spec (hlead k (by omega));obtain⟨_,g4,g5⟩:=step_move (i:=k) g2 gg (h1' k oi (by omega) g1);rw[g5,put_mem,put_tau];refine⟨i1,put_ids i2 (fun _ h=>h) ?_⟩;rw[g4];exact env_ids i2 x
    obtain⟨i1,i2⟩:=hinit z (AC _);obtain⟨c1,c2⟩:=canonC hm h1' ht z hzm;have hlz:=lz_get ops z (by omega);have hkd:∀s o,s<z->ops[s]? =some o->(rc.getD s rc0).kd=0:=fun s o hs hso=>by
     obtain⟨oi,x,g1,g2,gg,_⟩:=leadB_spec (hlead s hs);exact(step_move (i:=s) g2 gg (h1' s oi (by omega) g1)).1
    refine⟨lz_size ops z,lz_clo z hlead,fun j hj=>by rw[hlz];simp;omega,fun j hj=>by rw[hlz];simp[hj],by simpa only[hlz]using c1,c2,fun id=>⟨0,Nat.zero_le _,by rw[i1],fun s o hs hso hk _=>?_⟩,by rw[i1],fun x hx=>(i2 x hx).mono fun i hi=>.inl hi,fun id cells hc x hx=>?_⟩
    ·rw[hlz];constructor
     ·intro h;exact absurd (hkd s o (by simpa using h) hso) hk
     ·intro h;omega
    ·rw[i1,h0]at hc;have hc:(σ.mem++List.replicate n none)[id]? =some (some (.box cells)):=hc;have hc':σ.mem[id]? =some (some (.box cells)):=by
      rcases Nat.lt_or_ge id σ.mem.length with hl|hl
      ·rw[AQ hl]at hc;exact hc
      ·rw[List.getElem?_append_right hl,List.getElem?_replicate]at hc;split at hc<;>simp at hc
     obtain⟨L,_,_,_,_,_,c,T,_,hs,hv,_⟩:=hR.mem.blk id _ hc';obtain⟨j,hj⟩:=List.mem_iff_getElem?.1 hx;have hjl:j<c.size:=by have:=(A0.1 hj).1;omega
     exact((hv j x _ hj (AJ hjl)).ids).mono fun i hi=>.inl hi) z (AC _) a (by
   rw[Nat.sub_self,h0];exact hR0.later (Below.drew (Below.refl _ _)))
  rw[Nat.sub_self]at hcore;exact hcore
 ·cases h4
end
end Go.Ev

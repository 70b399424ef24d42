/- Part of a proof of a statement of this seat. No conditions. -/
import Derived.Below
import Derived.Deep.Quiet
import Derived.StillTail
import Derived.Laws.Tables
set_option linter.all false
namespace Go.Ev
theorem A0{α:Type _}{l:List α}{i:Nat}{a:α}:l[i]? =some a↔∃h:i<l.length,l[i]=a:=List.getElem?_eq_some_iff
theorem A1{α:Type _}{xs:Array α}{i:Nat}{a:α}:xs[i]? =some a↔∃h:i<xs.size,xs[i]=a:=Array.getElem?_eq_some_iff
theorem A2(a b:Bool):((a&&b)=true)=(a=true∧b=true):=Bool.and_eq_true a b
theorem A3{p:Prop}[Decidable p]:(decide p=true)=p:=decide_eq_true_eq
theorem A4{p:Prop}[Decidable p]:p->decide p=true:=decide_eq_true
theorem A5{α:Type _}(a b:α):(some a=some b)=(a=b):=Option.some.injEq a b
theorem A6{α β:Type _}(a:α)(b:β)(c:α)(d:β):((a,b)=(c,d))=(a=c∧b=d):=Prod.mk.injEq a b c d
theorem A7{α:Type _}{a:α}:¬a∈([]:List α):=List.not_mem_nil
theorem A8{α:Type _}{b:α}{l:List α}{a:α}:a∈b::l↔a=b∨a∈l:=List.mem_cons
theorem A9(n:Nat):(n:Int).toNat=n:=Int.toNat_natCast n
theorem AB{p:Prop}[Decidable p]:¬p->decide p=false:=decide_eq_false
theorem AC(n:Nat):n<=n:=Nat.le_refl n
theorem AD{p:Prop}[Decidable p]:decide p=true->p:=of_decide_eq_true
theorem AE(n:Nat):0+n=n:=Nat.zero_add n
theorem AF{n m:Nat}:Nat.beq n m=true->n=m:=Nat.eq_of_beq_eq_true
theorem AG{α:Type _}{as bs:List α}:(as++bs).length=as.length+bs.length:=List.length_append
theorem AH{m n:Nat}(k:Nat):m<=n->m*k<=n*k:=Nat.mul_le_mul_right k
theorem AI{x y:Bool}:(x||y)=false↔x=false∧y=false:=Bool.or_eq_false_iff
theorem AJ{α:Type _}{xs:Array α}{i:Nat}(h:i<xs.size):xs[i]? =some xs[i]:=Array.getElem?_eq_getElem h
theorem AK{α:Type _}{l:List α}{i:Nat}(h:i<l.length):l[i]? =some l[i]:=List.getElem?_eq_getElem h
theorem AL{c:Prop}{h:Decidable c}(hn:¬c){α:Sort _}{t e:α}:ite c t e=e:=if_neg hn
theorem AM{c:Prop}{h:Decidable c}(hn:c){α:Sort _}{t e:α}:ite c t e=t:=if_pos hn
theorem AO{p:Prop}[Decidable p]:decide p=false->¬p:=of_decide_eq_false
theorem AQ{α:Type _}{as bs:List α}{i:Nat}(h:i<as.length):(as++bs)[i]? =as[i]?:=List.getElem?_append_left h
inductive CK where
 |int(k:IntKind)
 |bool
 |str
 |slice(sub:List CK)
 |other
inductive Row where
 |nil
 |mk(n:Nat)(I:Nat->Nat->Int)(B:Nat->Nat->Bool)(S:Nat->Nat->ByteArray)(R:Nat->Nat->Row)
def Row.n:Row->Nat|.nil=>0|.mk n _ _ _ _=>n
def Row.I:Row->Nat->Nat->Int|.nil=>fun _ _=>0|.mk _ I _ _ _=>I
def Row.B:Row->Nat->Nat->Bool|.nil=>fun _ _=>false|.mk _ _ B _ _=>B
def Row.S:Row->Nat->Nat->ByteArray|.nil=>fun _ _=>.empty|.mk _ _ _ S _=>S
def Row.R:Row->Nat->Nat->Row|.nil=>fun _ _=>.nil|.mk _ _ _ _ R=>R
def Row.setI(r:Row)(e j:Nat)(x:Int):Row:=.mk r.n (fun e' j'=>bif Nat.beq e' e&&Nat.beq j' j then x else r.I e' j') r.B r.S r.R
def Row.setB(r:Row)(e j:Nat)(x:Bool):Row:=.mk r.n r.I (fun e' j'=>bif Nat.beq e' e&&Nat.beq j' j then x else r.B e' j') r.S r.R
def Row.setS(r:Row)(e j:Nat)(x:ByteArray):Row:=.mk r.n r.I r.B (fun e' j'=>bif Nat.beq e' e&&Nat.beq j' j then x else r.S e' j') r.R
def Row.setR(r:Row)(e j:Nat)(x:Row):Row:=.mk r.n r.I r.B r.S (fun e' j'=>bif Nat.beq e' e&&Nat.beq j' j then x else r.R e' j')
def Row.win(r:Row)(e m:Nat):Row:=.mk m (fun x=>r.I (e+x)) (fun x=>r.B (e+x)) (fun x=>r.S (e+x)) (fun x=>r.R (e+x))
def Row.app(r s:Row):Row:=.mk (r.n+s.n) (fun e j=>bif Nat.blt e r.n then r.I e j else s.I (e-r.n) j) (fun e j=>bif Nat.blt e r.n then r.B e j else s.B (e-r.n) j) (fun e j=>bif Nat.blt e r.n then r.S e j else s.S (e-r.n) j) (fun e j=>bif Nat.blt e r.n then r.R e j else s.R (e-r.n) j)
def Row.zeros(n:Nat):Row:=.mk n (fun _ _=>0) (fun _ _=>false) (fun _ _=>.empty) (fun _ _=>.nil)
inductive Blk where
 |box(cells:List Value)
 |row(ks:List CK)(own:Bool)(r:Row)
 |deep(ks:List CK)(r:Row)(hole:Option (Nat×Nat))
 |bor(p e j:Nat)(ks:List CK)(r:Row)
 |map(k:CK)(I:ByteArray->Int)(B:ByteArray->Bool)
def rowOf:Blk->Option (List CK×Row)
 |.row ks _ r=>some (ks,r)
 |.deep ks r _=>some (ks,r)
 |.bor _ _ _ ks r=>some (ks,r)
 |.box _=>none
 |.map _ _ _=>none
def datOf:Blk->Option (List CK×Row)
 |.row ks _ r=>some (ks,r)
 |.deep ks r none=>some (ks,r)
 |.bor _ _ _ ks r=>some (ks,r)
 |_=>none
structure St where
 τ:List Value
 saved:List (List Value)
 mem:List (Option Blk)
abbrev unk:Value:=.chan none
abbrev errV(b:Bool):Value:=.iface 0 (.bool b)
def atom:Value->Bool
 |.bool _|.int _ _|.string _|.pointer none|.nilFunc|.nilIface|.slice none 0 0=>true
 |.agg cs=>cs.toList.all fun|.bool _|.int _ _|.string _|.pointer none|.nilFunc|.nilIface|.slice none 0 0=>true|_=>false
 |.tuple ⟨[]⟩=>true
 |_=>false
noncomputable def getF(l:List Value):Nat->Value:=@List.rec Value (fun _=>Nat->Value) (fun _=>unk) (fun x _ ih t=>@Nat.rec (fun _=>Value) x (fun t' _=>ih t') t) l
theorem getF_eq:∀(l:List Value)(t:Nat),getF l t=l.getD t unk
 |[],_=>rfl
 |_::_,0=>rfl
 |_::xs,t+1=>(getF_eq xs t:_)
noncomputable def setK{β:Type}(v:Value)(l:List Value):Nat->(List Value->β)->β:=@List.rec Value (fun _=>Nat->(List Value->β)->β) (fun _ k=>k []) (fun x xs ih t=>@Nat.rec (fun _=>(List Value->β)->β) (fun k=>k (v::xs)) (fun t' _ k=>ih t' fun ys=>k (x::ys)) t) l
theorem setK_eq{β:Type}(v:Value):∀(l:List Value)(t:Nat)(k:List Value->β),setK v l t k=k (l.set t v)
 |[],_,_=>rfl
 |_::_,0,_=>rfl
 |x::xs,t+1,k=>(setK_eq v xs t fun ys=>k (x::ys):_)
noncomputable def env(τ:List Value):Operand->Value
 |.tmp t=>getF τ t
 |.const v=>match atom v with|true=>v|false=>unk
 |.global _=>unk
 |.func f=>.func (.func f) #[] #[]
def St.put(σ:St)(d:Option Tmp)(v:Value):St:=
 match d with
 |some t=>{σ with τ:=σ.τ.set t v}
 |none=>σ
noncomputable def St.putK{β:Type}(σ:St)(d:Option Tmp)(v:Value)(k:St->β):β:=
 match d with
 |some t=>setK v σ.τ t fun τ=>k {τ,saved:=σ.saved,mem:=σ.mem}
 |none=>k σ
theorem putK_eq{β:Type}(σ:St)(d:Option Tmp)(v:Value)(k:St->β):σ.putK d v k=k (σ.put d v):=by
 unfold St.putK St.put;split
 ·rw[setK_eq]
 ·rfl
section
variable{α:Type}
def br(b:Bool)(x y:Option α):Option α:=match b with|true=>x|false=>y
def pickN(n:Int)(f:Nat->Option α):Nat->Nat->Option α
 |0,_=>none
 |m+1,i=>br (decide (n=(i:Int))) (f i) (pickN n f m (i+1))
theorem pickN_some{n:Int}{f:Nat->Option α}{r:α}:∀{m i:Nat},pickN n f m i=some r->∃j:Nat,n=(j:Int)∧f j=some r
 |0,_,h=>by cases h
 |m+1,i,h=>by
  unfold pickN br at h;split at h
  ·rename_i hd;exact⟨i,AD hd,h⟩
  ·exact pickN_some h
def lcells:Value->List Value
 |.agg cs=>cs.toList
 |v=>[v]
def bytesRow(s:ByteArray):Row:=.mk s.size (fun e _=>((s.data.getD e 0).toNat:Int)) (fun _ _=>false) (fun _ _=>.empty) (fun _ _=>.nil)
def isBytes(P:Program):Op->Bool
 |.convert src dst _=>match P.underlying src,P.underlying dst with
  |some .string,some (.slice _)=>true
  |_,_=>false
 |_=>false
def updI(I:ByteArray->Int)(s:ByteArray)(n:Int):ByteArray->Int:=fun t=>bif t.toList==s.toList then n else I t
def updB(B:ByteArray->Bool)(s:ByteArray)(b:Bool):ByteArray->Bool:=fun t=>bif t.toList==s.toList then b else B t
def isUnk:Value->Bool
 |.chan _=>true
 |_=>false
def aggT(P:Program)(t:TypeId):Option Bool:=
 match P.underlying t with
 |some (.struct _)|some (.array _ _)=>some true
 |some _=>some false
 |none=>none
def partV(P:Program)(t:TypeId)(cs:List Value)(off:Nat):Option Value:=
 match P.info? t,aggT P t with
 |some i,some true=>some (.agg ⟨(cs.drop off).take i.size⟩)
 |some _,some false=>cs[off]?
 |_,_=>none
def eqV(P:Program):Nat->TypeId->Value->Value->Option Bool
 |0,_,_,_=>none
 |d+1,t,x,y=>
  match P.underlying t,x,y with
  |some .bool,.bool a,.bool b=>some (a==b)
  |some (.int _),.int k a,.int k' b=>if k=k' then some (a==b)else none
  |some .string,.string a,.string b=>some (a==b)
  |some (.struct fields),.agg xs,.agg ys=>
   if P.stoodInHeld t then none else
   fields.toList.foldr (fun f acc=>if f.name= "_" then none else
    match partV P f.type xs.toList f.offset,partV P f.type ys.toList f.offset with
    |some a,some b=>match eqV P d f.type a b,acc with
     |some p,some q=>some (p&&q)
     |_,_=>none
    |_,_=>none) (some true)
  |some (.array len elem),.agg xs,.agg ys=>
   match P.info? elem with
   |some i=>(List.range len).foldr (fun n acc=>
    match partV P elem xs.toList (n*i.size),partV P elem ys.toList (n*i.size)with
    |some a,some b=>match eqV P d elem a b,acc with
     |some p,some q=>some (p&&q)
     |_,_=>none
    |_,_=>none) (some true)
   |none=>none
  |_,_,_=>none
def bitsV(op:BinOp)(k:IntKind)(x y:Int):Option Int:=
 let a:=BitVec.ofInt k.bits x
 let b:=BitVec.ofInt k.bits y
 match op with
 |.and=>some (k.wrap (a&&&b).toNat)
 |.or=>some (k.wrap (a|||b).toNat)
 |.xor=>some (k.wrap (a^^^b).toNat)
 |.andNot=>some (k.wrap (a&&& ~~~b).toNat)
 |_=>none
def binV(P:Program)(op:BinOp)(t:TypeId)(x y:Value)(k:Value->Option α):Option α:=
 match x,y with
 |.int kd a,.int kd' b=>
  match op with
  |.shl=>br (decide (b<0)) none (k (.int kd (kd.wrap (a*2^(min b.toNat kd.bits)))))
  |.shr=>br (decide (b<0)) none (k (.int kd (a.fdiv (2^(min b.toNat kd.bits)))))
  |_=>
  if kd≠kd' then none else
  match op with
  |.add=>k (.int kd (kd.wrap (a+b)))
  |.sub=>k (.int kd (kd.wrap (a-b)))
  |.mul=>k (.int kd (kd.wrap (a*b)))
  |.quo=>br (decide (b=0)) none (k (.int kd (kd.wrap (a.tdiv b))))
  |.rem=>br (decide (b=0)) none (k (.int kd (a.tmod b)))
  |.eql=>k (.bool (a==b))
  |.neq=>k (.bool (a !=b))
  |.lss=>k (.bool (decide (a<b)))
  |.leq=>k (.bool (decide (a<=b)))
  |.gtr=>k (.bool (decide (a>b)))
  |.geq=>k (.bool (decide (a>=b)))
  |op=>match bitsV op kd a b with|some r=>k (.int kd r)|none=>none
 |.string a,.string b=>
  match op with
  |.add=>br (decide (((a.size+b.size:Nat):Int)>IntKind.i64.max)) none (k (.string (a++b)))
  |.eql=>k (.bool (a.toList==b.toList))
  |.neq=>k (.bool (!(a.toList==b.toList)))
  |.lss=>k (.bool (Op.bytesLess a.toList b.toList))
  |.leq=>k (.bool (Op.bytesLess a.toList b.toList||a.toList==b.toList))
  |.gtr=>k (.bool (!(Op.bytesLess a.toList b.toList||a.toList==b.toList)))
  |.geq=>k (.bool (!(Op.bytesLess a.toList b.toList)))
  |_=>none
 |x,y=>
  match op,x with
  |.eql,.bool _=>match eqV P Op.maxDepth t x y with|some b=>k (.bool b)|none=>none
  |.neq,.bool _=>match eqV P Op.maxDepth t x y with|some b=>k (.bool (!b))|none=>none
  |.eql,.agg _=>if P.eqGuardType P.depth t then none else match eqV P Op.maxDepth t x y with|some b=>k (.bool b)|none=>none
  |.neq,.agg _=>if P.eqGuardType P.depth t then none else match eqV P Op.maxDepth t x y with|some b=>k (.bool (!b))|none=>none
  |_,_=>none
def rowVals(r:Row)(e:Nat):List CK->Nat->Option (List Value)
 |[],_=>some []
 |.int k::ks,j=>(rowVals r e ks (j+1)).map (Value.int k (r.I e j):: ·)
 |.bool::ks,j=>(rowVals r e ks (j+1)).map (Value.bool (r.B e j):: ·)
 |.str::ks,j=>(rowVals r e ks (j+1)).map (Value.string (r.S e j):: ·)
 |_::_,_=>none
def loadV(P:Program)(mem:List (Option Blk))(t:TypeId)(x:Value):Option Value:=
 match x,P.info? t,aggT P t with
 |.pointer (some ⟨id,e,some j⟩),some i,some ag=>
  match mem[id]? with
  |some (some (.box cells))=>
   match ag with
   |true=>if j+i.size<=cells.length then some (.agg ⟨(cells.drop j).take i.size⟩)else none
   |false=>cells[j]?
  |some (some b)=>match rowOf b with
   |some (ks,r)=>
    match ag with
    |true=>if j+i.size<=ks.length then(rowVals r e ((ks.drop j).take i.size) j).map fun vs=>.agg ⟨vs⟩else none
    |false=>match rowVals r e ((ks.drop j).take 1) j with|some [v]=>some v|_=>none
   |none=>none
  |_=>none
 |_,_,_=>none
def viewVals(r:Row)(e:Nat):List CK->Nat->List (Option Blk)->Option (List Value×List (Option Blk))
 |[],_,mem=>some ([],mem)
 |.int k::ks,j,mem=>match viewVals r e ks (j+1) mem with|some (vs,m)=>some (.int k (r.I e j)::vs,m)|none=>none
 |.bool::ks,j,mem=>match viewVals r e ks (j+1) mem with|some (vs,m)=>some (.bool (r.B e j)::vs,m)|none=>none
 |.str::ks,j,mem=>match viewVals r e ks (j+1) mem with|some (vs,m)=>some (.string (r.S e j)::vs,m)|none=>none
 |.slice sub::ks,j,mem=>match viewVals r e ks (j+1) (mem++[some (.row sub false (r.R e j))])with
  |some (vs,m)=>some (.slice (some ⟨mem.length,0,some 0⟩) (r.R e j).n 0::vs,m)
  |none=>none
 |.other::_,_,_=>none
def borVals(p:Nat)(r:Row)(e:Nat):List CK->Nat->List (Option Blk)->Option (List Value×List (Option Blk))
 |[],_,mem=>some ([],mem)
 |.int k::ks,j,mem=>match borVals p r e ks (j+1) mem with|some (vs,m)=>some (.int k (r.I e j)::vs,m)|none=>none
 |.bool::ks,j,mem=>match borVals p r e ks (j+1) mem with|some (vs,m)=>some (.bool (r.B e j)::vs,m)|none=>none
 |.str::ks,j,mem=>match borVals p r e ks (j+1) mem with|some (vs,m)=>some (.string (r.S e j)::vs,m)|none=>none
 |.slice sub::ks,j,mem=>match borVals p r e ks (j+1) (mem++[some (.bor p e j sub (r.R e j))])with
  |some (vs,m)=>some (.slice (some ⟨mem.length,0,some 0⟩) (r.R e j).n 0::vs,m)
  |none=>none
 |.other::_,_,_=>none
def hasSl:List CK->Bool
 |[]=>false
 |.slice _::_=>true
 |_::ks=>hasSl ks
def manyS:List CK->Bool
 |[]=>false
 |.slice _::ks=>hasSl ks
 |_::ks=>manyS ks
def onlyS{α:Type}(ks:List CK)(x:Option α):Option α:=match manyS ks with
 |true=>none
 |false=>x
theorem onlyS_some{α:Type}{ks:List CK}{x:Option α}{y:α}(h:onlyS ks x=some y):manyS ks=false∧x=some y:=by
 unfold onlyS at h;split at h
 ·cases h
 ·exact⟨by assumption,h⟩
def rowBytes(r:Row)(e n:Nat):ByteArray:=((List.range n).map fun i=>r.I (e+i) 0).foldl (fun s x=>s.push (UInt8.ofNat x.toNat)) .empty
def viewLoad(P:Program)(mem:List (Option Blk))(ρ:Operand->Value)(o:Oper):Option (Value×List (Option Blk)):=
 match o.op with
 |.load t a=>match ρ a,P.info? t,aggT P t with
  |.pointer (some ⟨id,e,some j⟩),some i,some ag=>match mem[id]? with
   |some (some (.row ks _ r))=>match hasSl ((ks.drop j).take i.size)&&Nat.ble (j+i.size) ks.length with
    |true=>match viewVals r e ((ks.drop j).take i.size) j mem,ag with
     |some (vs,m),true=>some (.agg ⟨vs⟩,m)
     |some ([v],m),false=>some (v,m)
     |_,_=>none
    |false=>none
   |some (some (.deep ks r none))=>match hasSl ((ks.drop j).take i.size)&&Nat.ble (j+i.size) ks.length with
    |true=>match borVals id r e ((ks.drop j).take i.size) j mem,ag with
     |some (vs,m),true=>some (.agg ⟨vs⟩,m)
     |some ([v],m),false=>some (v,m)
     |_,_=>none
    |false=>none
   |_=>none
  |_,_,_=>none
 |.convert src dst x=>match P.underlying src,P.underlying dst,ρ x with
  |some (.slice el),some .string,.slice (some ⟨id,e,some 0⟩) len 0=>match P.underlying el,mem[id]? with
   |some (.int .u8),some (some (.row [.int .u8] _ r))=>some (.string (rowBytes r e len),mem)
   |_,_=>none
  |_,_,_=>none
 |.binOp op t x (.const .nilIface) _=>match P.underlying t,ρ x,op with
  |some (.interface _),.nilIface,.eql=>some (.bool true,mem)
  |some (.interface _),.nilIface,.neq=>some (.bool false,mem)
  |some (.interface _),.iface _ (.bool b),.eql=>some (.bool (!b),mem)
  |some (.interface _),.iface _ (.bool b),.neq=>some (.bool b,mem)
  |_,_,_=>none
 |_=>none
def convV(P:Program)(src dst:TypeId)(x:Value):Option Value:=
 match P.underlying src,P.underlying dst,x with
 |some _,some (.int k),.int _ n=>some (.int k (k.wrap n))
 |some _,some .string,.string s=>some (.string s)
 |_,_,_=>none
def evPure(P:Program)(mem:List (Option Blk))(ρ:Operand->Value)(o:Oper)(k:Value->Option α):Option α:=
 match o.op with
 |.move x|.assign x=>k (ρ x)
 |.pick c a b=>match ρ c with|.bool c=>br c (k (ρ a)) (k (ρ b))|_=>none
 |.load t a=>match loadV P mem t (ρ a)with|some v=>k v|none=>none
 |.nilCheck x=>match ρ x with|.pointer (some p)=>k (.pointer (some p))|_=>none
 |.binOp op t x y _=>binV P op t (ρ x) (ρ y) k
 |.unOp op _ x=>match op,ρ x with
  |.not,.bool b=>k (.bool (!b))
  |.neg,.int kd n=>k (.int kd (kd.wrap (0-n)))
  |.xor,.int kd n=>k (.int kd (kd.wrap (BitVec.ofInt kd.bits (bif kd.signed then-1 else kd.max)^^^BitVec.ofInt kd.bits n).toNat))
  |_,_=>none
 |.convert src dst x=>match convV P src dst (ρ x)with|some v=>k v|none=>none
 |.fieldAddr t x i=>match P.underlying t,ρ x with
  |some (.struct fs),.pointer (some ⟨id,e,some j⟩)=>match fs[i]? with
   |some f=>match P.info? f.type with
    |some fi=>if fi.size=0 then none else k (.pointer (some ⟨id,e,some (j+f.offset)⟩))
    |none=>none
   |none=>none
  |_,_=>none
 |.field t x i=>match P.underlying t,ρ x with
  |some (.struct fs),.agg cs=>match fs[i]? with
   |some f=>match partV P f.type cs.toList f.offset with|some v=>k v|none=>none
   |none=>none
  |_,_=>none
 |.indexAddr t x i=>match P.underlying t,ρ x,ρ i with
  |some (.slice el),.slice (some ⟨id,e,some 0⟩) len _,.int _ n=>
   match P.info? el,mem[id]? with
   |some ei,some (some b)=>match rowOf b with
    |some (ks,_)=>if ei.size=ks.length then br (decide (0<=n)&&decide (n<(len:Int))) (k (.pointer (some ⟨id,e+n.toNat,some 0⟩))) none else none
    |none=>none
   |_,_=>none
  |some (.array len el),.pointer (some ⟨id,e,some j⟩),.int _ n=>
   match P.info? el with
   |some ei=>br (decide (0<=n)&&decide (n<(len:Int))) (pickN n (fun q=>k (.pointer (some ⟨id,e,some (j+q*ei.size)⟩))) len 0) none
   |none=>none
  |_,_,_=>none
 |.index t x i=>match P.underlying t,ρ x,ρ i with
  |some (.array len el),.agg cs,.int _ n=>
   match P.info? el with
   |some ei=>br (decide (0<=n)&&decide (n<(len:Int))) (pickN n (fun q=>match partV P el cs.toList (q*ei.size)with|some v=>k v|none=>none) len 0) none
   |none=>none
  |some .string,.string s,.int _ n=>br (decide (0<=n)&&decide (n<(s.size:Int))) (k (.int .u8 (s.data.getD n.toNat 0).toNat)) none
  |_,_,_=>none
 |.extract x i=>match ρ x with|.tuple vs=>(match vs[i]? with|some v=>k v|none=>none)|_=>none
 |.lookup t x i false=>match P.underlying t,ρ x,ρ i with
  |some (.map kt et),.map (some id),.string s=>match P.underlying kt,mem[id]?,(P.info? et).bind (·.zero)with
   |some .string,some (some (.map (.int kd) I _)),some (.int kd' 0)=>if kd=kd' then k (.int kd (I s))else none
   |some .string,some (some (.map .bool _ B)),some (.bool false)=>k (.bool (B s))
   |_,_,_=>none
  |_,_,_=>none
 |.makeFunc fn first captured=>k (.func fn (first.map ρ) (captured.map ρ))
 |.call c=>match c.callee with
  |.builtin .len=>match c.argTypes.toList,c.args.toList with
   |[t],[x]=>match P.underlying t,ρ x with
    |some (.slice _),.slice _ n _=>k (.int .i64 (n:Int))
    |some .string,.string s=>k (.int .i64 (s.size:Int))
    |some (.array n _),_=>k (.int .i64 (n:Int))
    |_,_=>none
   |_,_=>none
  |.builtin .min=>match c.args.toList.map ρ with
   |[.int kd x,.int _ y]=>k (.int kd (if y<x then y else x))
   |_=>none
  |.builtin .max=>match c.args.toList.map ρ with
   |[.int kd x,.int _ y]=>k (.int kd (if y>x then y else x))
   |_=>none
  |_=>none
 |.slice t x lo hi mx=>match P.underlying t,ρ x,mx with
  |some .string,.string s,none=>
   match(lo.map ρ).getD (.int .i64 0),(hi.map ρ).getD (.int .i64 (s.size:Int))with
   |.int _ l,.int _ h=>br (decide (0<=h)&&decide (h<=(s.size:Int))) (br (decide (0<=l)&&decide (l<=(h.toNat:Int))) (k (.string (s.extract l.toNat h.toNat))) none) none
   |_,_=>none
  |some (.slice el),.slice (some ⟨id,e,some 0⟩) len 0,none=>
   match P.info? el,mem[id]? with
   |some ei,some (some b)=>match rowOf b with
    |some (ks,_)=>if ei.size=ks.length then
     match(lo.map ρ).getD (.int .i64 0),(hi.map ρ).getD (.int .i64 (len:Int))with
     |.int _ l,.int _ h=>br (decide (0<=h)&&decide (h<=(len:Int))) (br (decide (0<=l)&&decide (l<=(h.toNat:Int))) (k (.slice (some ⟨id,e+l.toNat,some 0⟩) (h.toNat-l.toNat) 0)) none) none
     |_,_=>none
     else none
    |none=>none
   |_,_=>none
  |some (.slice el),.slice (some ⟨id,e,some 0⟩) len 0,some mx=>
   match P.info? el,mem[id]? with
   |some ei,some (some b)=>match rowOf b with
    |some (ks,_)=>if ei.size=ks.length then
     match(lo.map ρ).getD (.int .i64 0),hi.map ρ,ρ mx with
     |.int _ l,some (.int _ h),.int _ m=>br (decide (0<=m)&&decide (m<=(len:Int))) (br (decide (0<=h)&&decide (h<=m)) (br (decide (0<=l)&&decide (l<=(h.toNat:Int))) (k (.slice (some ⟨id,e+l.toNat,some 0⟩) (h.toNat-l.toNat) 0)) none) none) none
     |_,_,_=>none
     else none
    |none=>none
   |_,_=>none
  |_,_,_=>none
 |_=>none
inductive D where
 |v(x:Value)
 |slice(ks:List CK)(r:Row)
 |agg(ds:List D)
 |ptr(ks:List CK)(r:Row)
 |err(b:Bool)
abbrev FD:=List D->Option (Bool×List D)
abbrev OD:=Option (List D)
inductive X where
 |normal
 |exit(id:Nat)
 |ret
structure Cx where
 P:Program
 ok:List FuncId
 Γ:FuncId->Option (FD)
 N:Nat
 lv:FuncId->Nat->List Tmp
 lx:FuncId->Nat->Option (List Tmp)
 Λ:FuncId->Nat->Option (St->(X->St->OD)->OD)
 X:FuncId->Option (List Value->Option (Bool×List Value)):=fun _=>none
 I:FuncId->Option (List Value->St->Option (Bool×Value×St)):=fun _=>none
 no:Oper->Bool:=fun _=>false
def ask(C:Cx)(o:Oper)(v:Value)(k:Value->Option α):Option α:=match C.no o with
 |true=>(match v with|.bool b=>br b none (k (.bool false))|_=>none)
 |false=>k v
theorem ask_some{C:Cx}{o:Oper}{v:Value}{k:Value->Option α}{r:α}(h:ask C o v k=some r):k v=some r:=by
 unfold ask at h;split at h
 ·split at h
  ·rename_i b;cases b with
   |true=>cases h
   |false=>exact h
  ·cases h
 ·exact h
def winOf(r:Row)(e len:Nat):Row:=
 match e with
 |0=>.mk len r.I r.B r.S r.R
 |e=>r.win e len
def atom1:Value->Bool
 |.bool _|.int _ _|.string _|.nilIface|.func _ ⟨[]⟩ ⟨[]⟩=>true
 |_=>false
def flat:List CK->Bool
 |[]=>true
 |.int _::ks=>flat ks
 |.bool::ks=>flat ks
 |.str::ks=>flat ks
 |_=>false
def subOf:CK->List CK
 |.slice s=>s
 |_=>[]
def rsubOf:CK->List CK
 |.slice s=>s
 |_=>[]
def deepKs:List CK->Bool
 |[]=>true
 |.slice s::ks=>flat s&&deepKs ks
 |.other::_=>false
 |_::ks=>deepKs ks
def outB(ks:List CK)(r:Row):Blk:=match flat ks with|true=>.row ks true r|false=>.deep ks r none
def dropB(p:Nat)(mem:List (Option Blk)):List (Option Blk):=mem.map fun b=>match b with
 |some (.bor q e j ks r)=>(match Nat.beq q p with|true=>none|false=>some (.bor q e j ks r))
 |b=>b
def toD1(ck:CK)(mem:List (Option Blk))(x:Value):Option D:=
 match x with
 |.slice none 0 0=>some (.slice (subOf ck) .nil)
 |.slice (some ⟨id,e,some 0⟩) len 0=>match mem[id]? with
  |some (some b)=>match datOf b with
   |some (ks,r)=>some (.slice ks (winOf r e len))
   |none=>none
  |_=>none
 |x=>match atom1 x with|true=>some (.v x)|false=>none
def toD1s(mem:List (Option Blk)):List CK->List Value->OD
 |_,[]=>some []
 |cks,x::xs=>match toD1 (cks.headD .other) mem x,toD1s mem cks.tail xs with
  |some d,some ds=>some (d::ds)
  |_,_=>none
def toD(cks:List CK)(mem:List (Option Blk))(x:Value):Option D:=
 match x with
 |.agg cs=>match toD1s mem cks cs.toList with|some ds=>some (.agg ds)|none=>none
 |x=>toD1 (cks.headD .other) mem x
def toDs(mem:List (Option Blk)):List (List CK)->List Value->OD
 |_,[]=>some []
 |ckss,x::xs=>match toD (ckss.headD []) mem x,toDs mem ckss.tail xs with
  |some d,some ds=>some (d::ds)
  |_,_=>none
def boxD(mem:List (Option Blk)):List Value->Option (List CK×Row)
 |[.int k n]=>some ([.int k],.mk 1 (fun _ _=>n) (fun _ _=>false) (fun _ _=>.empty) (fun _ _=>.nil))
 |[.slice (some ⟨id,e,some 0⟩) len 0]=>match mem[id]? with
  |some (some b)=>match datOf b with
   |some (ks,r)=>some ([.slice ks],.mk 1 (fun _ _=>0) (fun _ _=>false) (fun _ _=>.empty) (fun _ _=>winOf r e len))
   |none=>none
  |_=>none
 |_=>none
def toDP(cks:List CK)(mem:List (Option Blk))(x:Value):Option D:=
 match x with
 |.pointer (some ⟨id,0,some 0⟩)=>match mem[id]? with
  |some (some (.box cells))=>match boxD mem cells with
   |some (ks,r)=>some (.ptr ks r)
   |none=>none
  |_=>none
 |x=>toD cks mem x
def toDsP(mem:List (Option Blk)):List (List CK)->List Value->OD
 |_,[]=>some []
 |ckss,x::xs=>match toDP (ckss.headD []) mem x,toDsP mem ckss.tail xs with
  |some d,some ds=>some (d::ds)
  |_,_=>none
def flatV:List D->Option (List Value)
 |[]=>some []
 |.v x::ds=>match flatV ds with
  |some xs=>some (x::xs)
  |none=>none
 |_=>none
def isV:D->Option Value
 |.v x=>some x
 |.agg ds=>match flatV ds with
  |some xs=>some (.agg ⟨xs⟩)
  |none=>none
 |_=>none
def allV:List D->Option (List Value)
 |[]=>some []
 |d::ds=>match isV d,allV ds with
  |some x,some xs=>some (x::xs)
  |_,_=>none
def tupV:List Value->Value
 |[x]=>x
 |xs=>.tuple ⟨xs⟩
def fromD1(own:Bool)(mem:List (Option Blk)):D->Option (Value×List (Option Blk))
 |.v x=>match atom1 x with|true=>some (x,mem)|false=>none
 |.slice ks r=>match own with
  |true=>some (.slice (some ⟨mem.length,0,some 0⟩) r.n 0,mem++[some (outB ks r)])
  |false=>some (.slice (some ⟨mem.length,0,some 0⟩) r.n 0,mem++[some (.row ks false r)])
 |.agg _=>none
 |.ptr ks r=>match own with
  |true=>none
  |false=>some (.pointer (some ⟨mem.length,0,some 0⟩),mem++[some (.row ks false r)])
 |.err b=>some (errV b,mem)
def fromD1s(own:Bool):List D->List (Option Blk)->Option (List Value×List (Option Blk))
 |[],mem=>some ([],mem)
 |d::ds,mem=>match fromD1 own mem d with
  |some (x,mem1)=>match fromD1s own ds mem1 with
   |some (xs,mem2)=>some (x::xs,mem2)
   |none=>none
  |none=>none
def fromD(own:Bool)(mem:List (Option Blk)):D->Option (Value×List (Option Blk))
 |.agg ds=>match fromD1s own ds mem with|some (xs,mem1)=>some (.agg ⟨xs⟩,mem1)|none=>none
 |d=>fromD1 own mem d
def fromDs(own:Bool):List D->List (Option Blk)->Option (List Value×List (Option Blk))
 |[],mem=>some ([],mem)
 |d::ds,mem=>match fromD own mem d with
  |some (x,mem1)=>match fromDs own ds mem1 with
   |some (xs,mem2)=>some (x::xs,mem2)
   |none=>none
  |none=>none
def kinds(P:Program):Nat->TypeId->List CK
 |0,_=>[.other]
 |d+1,t=>match P.underlying t with
  |some .bool=>[.bool]
  |some (.int k)=>[.int k]
  |some .string=>[.str]
  |some (.slice e)=>[.slice (kinds P d e)]
  |some (.struct fs)=>fs.toList.flatMap fun f=>kinds P d f.type
  |some (.array n e)=>(List.replicate n (kinds P d e)).flatten
  |_=>[.other]
def parKs(P:Program)(g:FuncId):List (List CK):=match P.funcs[g]? with
 |some fn=>fn.params.toList.map (kinds P 8)
 |none=>[]
def resKs(P:Program)(g:FuncId):List (List CK):=match P.funcs[g]? with
 |some fn=>fn.resultTypes.toList.map (kinds P 8)
 |none=>[]
def calleeOf(ρ:Operand->Value)(c:Call):Option (FuncId×List Value):=
 match c.callee with
 |.value f=>match ρ f with
  |.func (.func g) first captured=>some (g,first.toList++c.args.toList.map ρ++captured.toList)
  |_=>none
 |_=>none
def evBuild{α:Type}(P:Program)(ρ:Operand->Value)(t:TypeId)(parts:Array (Nat×Operand))(k:Value->Option α):Option α:=
 match(P.info? t).bind (·.zero),(parts.toList.map fun p=>(p.1,ρ p.2)).all (fun p=> !isUnk p.2)with
 |some z,true=>match atom z,P.built t (parts.toList.map fun p=>(p.1,ρ p.2))with
  |true,some cells=>k (.agg cells)
  |_,_=>none
 |_,_=>none
def evQ{α:Type}(C:Cx)(calls:Bool)(mem:List (Option Blk))(ρ:Operand->Value)(o:Oper)(k:Value->Option α):Option α:=
 match o.op with
 |.build t parts=>evBuild C.P ρ t parts k
 |.call c=>match calleeOf ρ c with
  |some (g,args)=>match C.X g with
   |some f=>match f args with|some (b,vs)=>br b (k (tupV vs)) none|none=>none
   |none=>match calls&&C.ok.contains g,C.Γ g,toDs mem (parKs C.P g) args with
    |true,some F,some ds=>match F ds with
     |some (c,rs)=>match allV rs with|some vs=>br c (k (tupV vs)) none|none=>none
     |none=>none
    |_,_,_=>none
  |none=>evPure C.P mem ρ o k
 |_=>evPure C.P mem ρ o k
def IntKind.same:IntKind->IntKind->Bool
 |.i8,.i8=>true
 |.i16,.i16=>true
 |.i32,.i32=>true
 |.i64,.i64=>true
 |.u8,.u8=>true
 |.u16,.u16=>true
 |.u32,.u32=>true
 |.u64,.u64=>true
 |_,_=>false
mutual
def ckEq:CK->CK->Bool
 |.int k,.int k'=>IntKind.same k k'
 |.bool,.bool=>true
 |.str,.str=>true
 |.slice a,.slice b=>cksEq a b
 |_,_=>false
def cksEq:List CK->List CK->Bool
 |[],[]=>true
 |a::as,b::bs=>ckEq a b&&cksEq as bs
 |_,_=>false
end
def setCell1(mem:List (Option Blk))(r:Row)(e j:Nat)(ck:CK)(x:Value):Option (Row×List (Option Blk)):=
 match ck,x with
 |.int k,.int k' n=>match IntKind.same k k' with|true=>some (r.setI e j n,mem)|false=>none
 |.bool,.bool b=>some (r.setB e j b,mem)
 |.str,.string s=>some (r.setS e j s,mem)
 |.slice _,.slice none 0 0=>some (r.setR e j .nil,mem)
 |.slice sub,.slice (some ⟨id,e',some 0⟩) len 0=>match mem[id]? with
  |some (some (.row ks _ s))=>match cksEq ks sub with
   |true=>some (r.setR e j (winOf s e' len),mem.set id (some (.row ks false s)))
   |false=>none
  |_=>none
 |_,_=>none
def setCells(mem:List (Option Blk))(r:Row)(e:Nat):Nat->List CK->List Value->Option (Row×List (Option Blk))
 |_,_,[]=>some (r,mem)
 |j,ck::ks,x::xs=>match setCell1 mem r e j ck x with
  |some (r1,mem1)=>setCells mem1 r1 e (j+1) ks xs
  |none=>none
 |_,[],_::_=>none
def setDeep1(mem:List (Option Blk))(r:Row)(e j:Nat)(ck:CK)(x:Value):Option (Row×List (Option Blk)):=
 match ck,x with
 |.int k,.int k' n=>match IntKind.same k k' with|true=>some (r.setI e j n,mem)|false=>none
 |.bool,.bool b=>some (r.setB e j b,mem)
 |.str,.string s=>some (r.setS e j s,mem)
 |.slice sub,.slice none 0 0=>match flat sub with|true=>some (r.setR e j .nil,mem)|false=>none
 |.slice sub,.slice (some ⟨id,e',some 0⟩) len 0=>match mem[id]? with
  |some (some (.row ks true s))=>match cksEq ks sub&&flat ks with
   |true=>some (r.setR e j (winOf s e' len),mem.set id none)
   |false=>none
  |_=>none
 |_,_=>none
def setDeeps(mem:List (Option Blk))(r:Row)(e:Nat):Nat->List CK->List Value->Option (Row×List (Option Blk))
 |_,_,[]=>some (r,mem)
 |j,ck::ks,x::xs=>match setDeep1 mem r e j ck x with
  |some (r1,mem1)=>setDeeps mem1 r1 e (j+1) ks xs
  |none=>none
 |_,[],_::_=>none
def litDeep(mem:List (Option Blk))(ks:List CK)(n:Nat)(cells:List Value):Nat->Row->Option (Row×List (Option Blk))
 |0,r=>some (r,mem)
 |m+1,r=>match setDeeps mem r (n-(m+1)) 0 ks ((cells.drop ((n-(m+1))*ks.length)).take ks.length)with
  |some (r1,mem1)=>litDeep mem1 ks n cells m r1
  |none=>none
def meetM:List (Option Blk)->List (Option Blk)->List (Option Blk)
 |a::as,b::bs=>(match b with|none=>none|some _=>a)::meetM as bs
 |_,_=>[]
def setFros(m0 m:List (Option Blk))(r:Row)(e:Nat):Nat->List CK->List Value->Option (Row×List (Option Blk))
 |_,_,[]=>some (r,m)
 |j,ck::ks,x::xs=>match setDeep1 m0 r e j ck x with
  |some (r1,m1)=>setFros m0 (meetM m m1) r1 e (j+1) ks xs
  |none=>none
 |_,[],_::_=>none
def litFro(m0 m:List (Option Blk))(ks:List CK)(n:Nat)(cells:List Value):Nat->Row->Option (Row×List (Option Blk))
 |0,r=>some (r,m)
 |k+1,r=>match setFros m0 m r (n-(k+1)) 0 ks ((cells.drop ((n-(k+1))*ks.length)).take ks.length)with
  |some (r1,m1)=>litFro m0 m1 ks n cells k r1
  |none=>none
def litD(mem:List (Option Blk))(ks:List CK)(n:Nat)(cells:List Value):Option (Row×List (Option Blk)):=match manyS ks with
 |true=>litFro mem mem ks n cells n (Row.zeros n)
 |false=>litDeep mem ks n cells n (Row.zeros n)
def litRow(mem:List (Option Blk))(ks:List CK)(n:Nat)(cells:List Value):Nat->Row->Option (Row×List (Option Blk))
 |0,r=>some (r,mem)
 |m+1,r=>match setCells mem r (n-(m+1)) 0 ks ((cells.drop ((n-(m+1))*ks.length)).take ks.length)with
  |some (r1,mem1)=>litRow mem1 ks n cells m r1
  |none=>none
def St.new(σ:St)(d:Option Tmp)(v:Nat->Value)(b:Blk):St:=({σ with mem:=σ.mem++[some b]}).put d (v σ.mem.length)
def ptr0(id:Nat):Value:=.pointer (some ⟨id,0,some 0⟩)
def sl0(n id:Nat):Value:=.slice (some ⟨id,0,some 0⟩) n 0
def zeroOk:List CK->List Value->Bool
 |[],[]=>true
 |.int k::ks,.int k' 0::vs=>IntKind.same k k'&&zeroOk ks vs
 |.bool::ks,.bool false::vs=>zeroOk ks vs
 |.str::ks,.string s::vs=>s.data.toList.isEmpty&&zeroOk ks vs
 |.slice _::ks,.slice none 0 0::vs=>zeroOk ks vs
 |_,_=>false
def cell1:Value->Bool
 |.agg _|.tuple _|.chan _=>false
 |_=>true
def storeV(P:Program)(mem:List (Option Blk))(t:TypeId)(x v:Value):Option (List (Option Blk)):=
 match x,P.info? t,(lcells v).all cell1 with
 |.pointer (some ⟨id,e,some j⟩),some i,true=>
  if(lcells v).length=i.size∧0<i.size then
   match mem[id]? with
   |some (some (.box cells))=>if j+i.size<=cells.length then some (mem.set id (some (.box (cells.take j++lcells v++cells.drop (j+i.size)))))else none
   |some (some (.row ks true r))=>match setCells mem r e j (ks.drop j) (lcells v)with
    |some (r1,mem1)=>match mem1[id]? with
     |some (some (.row _ true _))=>some (mem1.set id (some (.row ks true r1)))
     |_=>none
    |none=>none
   |_=>none
  else none
 |_,_,_=>none
def storeD(P:Program)(mem:List (Option Blk))(t:TypeId)(x v:Value):Option (Bool×List (Option Blk)):=
 match x,P.info? t,(lcells v).all cell1 with
 |.pointer (some ⟨id,e,some j⟩),some i,true=>
  if(lcells v).length=i.size∧0<i.size then
   match mem[id]? with
   |some (some (.deep ks r h))=>match onlyS ks (setDeeps mem r e j (ks.drop j) (lcells v))with
    |some (r1,mem1)=>match h with
     |none=>some (true,(dropB id mem1).set id (some (.deep ks r1 none)))
     |some (eh,jh)=>match Nat.beq i.size 1&&Nat.beq j jh with
      |true=>some (decide (e=eh),(dropB id mem1).set id (some (.deep ks r1 none)))
      |false=>none
    |none=>none
   |some (some (.bor p e0 j0 ks r))=>match setCells mem r e j (ks.drop j) (lcells v),mem[p]? with
    |some (r1,_),some (some (.deep kp rp none))=>onlyS kp (some (true,(dropB p mem).set p (some (.deep kp (rp.setR e0 j0 r1) none))))
    |_,_=>none
   |_=>none
  else none
 |_,_,_=>none
def takeM(mem:List (Option Blk))(id p e j:Nat)(ks kp:List CK)(r rp:Row):List (Option Blk):=((dropB p mem).set p (some (.deep kp rp (some (e,j))))).set id (some (.row ks true r))
def takeDst(mem:List (Option Blk)):Value->List (Option Blk)
 |.slice (some ⟨id,_,_⟩) _ _=>match mem[id]? with
  |some (some (.bor p e j ks r))=>match mem[p]? with
   |some (some (.deep kp rp none))=>(match manyS kp with|true=>mem|false=>takeM mem id p e j ks kp r rp)
   |_=>mem
  |_=>mem
 |_=>mem
def appDst(mem:List (Option Blk))(ks:List CK):Value->Option (Option Nat×Row×Nat)
 |.slice none 0 0=>some (none,.nil,0)
 |.slice (some ⟨id,e,some 0⟩) len 0=>match mem[id]? with
  |some (some (.row ks1 true r))=>match cksEq ks1 ks with|true=>some (some id,winOf r e len,len)|false=>none
  |_=>none
 |_=>none
def srcOk(P:Program)(xt:TypeId)(x:Value):Bool:=match P.underlying xt,x with
 |some (.slice _),.slice _ _ _=>true
 |some .string,.string _=>true
 |_,_=>false
def appSrc(mem:List (Option Blk))(ks:List CK)(x:Value):Option Row:=
 match x with
 |.string s=>match cksEq ks [.int .u8]with|true=>some (bytesRow s)|false=>none
 |.slice none 0 0=>some .nil
 |.slice (some ⟨id,e,some 0⟩) len 0=>match mem[id]? with
  |some (some (.row ks2 _ r2))=>match cksEq ks2 ks with|true=>some (winOf r2 e len)|false=>none
  |some (some b)=>match datOf b with
   |some (ks2,r2)=>match cksEq ks2 ks&&flat ks with|true=>some (winOf r2 e len)|false=>none
   |none=>none
  |_=>none
 |_=>none
def killM(p:Nat)(mem:List (Option Blk)):List (Option Blk):=dropB p (mem.set p none)
def appDeep(mem:List (Option Blk))(ks:List CK)(s x:Value):Option (List (Option Blk)×Row×Nat):=
 match x with
 |.slice (some ⟨id2,0,some 0⟩) n2 0=>match mem[id2]? with
  |some (some (.deep ks2 r2 none))=>match cksEq ks2 ks,s with
   |true,.slice none 0 0=>some (killM id2 mem,Row.nil.app (winOf r2 0 n2),0+n2)
   |true,.slice (some ⟨id,0,some 0⟩) n 0=>match mem[id]? with
    |some (some (.deep ks1 r1 none))=>match cksEq ks1 ks&& !Nat.beq id id2 with
     |true=>some (killM id (killM id2 mem),(winOf r1 0 n).app (winOf r2 0 n2),n+n2)
     |false=>none
    |_=>none
   |_,_=>none
  |_=>none
 |_=>none
def mapStore(mem:List (Option Blk))(m x v:Value):Option (List (Option Blk)):=
 match m,x with
 |.map (some id),.string s=>match mem[id]?,v with
  |some (some (.map (.int kd) I B)),.int kd' n=>match IntKind.same kd kd' with|true=>some (mem.set id (some (.map (.int kd) (updI I s n) B)))|false=>none
  |some (some (.map .bool I B)),.bool b=>some (mem.set id (some (.map .bool I (updB B s b))))
  |_,_=>none
 |_,_=>none
noncomputable def evEff{α:Type}(C:Cx)(σ:St)(o:Oper)(inl:FuncId->List Value->St->(Value->St->Option α)->Option α)(k:St->Option α):Option α:=
 let ρ:=env σ.τ
 match o.op with
 |.alloc t=>match(C.P.info? t).bind (·.zero)with
  |some z=>match atom z with|true=>k (σ.new o.dst ptr0 (.box (lcells z)))|false=>none
  |none=>none
 |.box _ x=>match isUnk (ρ x)with|false=>k (σ.new o.dst ptr0 (.box (lcells (ρ x))))|true=>none
 |.build t parts=>evBuild C.P ρ t parts fun v=>k (σ.put o.dst v)
 |.buildSlice t len parts=>match C.P.underlying t with
  |some (.slice el)=>match C.P.info? el,(parts.toList.map fun p=>(p.1,ρ p.2)).all (fun p=> !isUnk p.2)with
   |some ei,true=>
    let ks:=kinds C.P 8 el
    match ei.zero with
    |some z=>if len*ei.size<=16777216∧ei.size=ks.length∧zeroOk ks (lcells z)=true then
      match Instr.fill (fun i=>some (i*ei.size,ei.size)) ((Array.range (len*ei.size)).map (z.cells[· %z.cells.size]!)) (parts.toList.map fun p=>(p.1,ρ p.2))with
      |some cells=>match Nat.beq len 0 with
       |true=>k (σ.new o.dst (fun _=>.slice none 0 0) (.box []))
       |false=>match hasSl ks,litD σ.mem ks len cells.toList with
        |true,some (r,mem1)=>k (({σ with mem:=mem1}:St).new o.dst (sl0 len) (.deep ks r none))
        |_,_=>match litRow σ.mem ks len cells.toList len (Row.zeros len)with
         |some (r,mem1)=>k (({σ with mem:=mem1}:St).new o.dst (sl0 len) (.row ks true r))
         |none=>none
      |none=>none
     else none
    |none=>none
   |_,_=>none
  |_=>none
 |.store t a x=>match storeV C.P σ.mem t (ρ a) (ρ x)with
  |some mem1=>k (({σ with mem:=mem1}:St).put o.dst (.tuple #[]))
  |none=>match storeD C.P σ.mem t (ρ a) (ρ x)with
   |some (c,mem1)=>br c (k (({σ with mem:=mem1}:St).put o.dst (.tuple #[]))) none
   |none=>none
 |.makeSlice t l c=>match C.P.underlying t,ρ l,ρ c with
  |some (.slice el),.int _ l,.int _ c=>match C.P.info? el with
   |some ei=>
    let ks:=kinds C.P 8 el
    match ei.zero with
    |some z=>if ei.size=ks.length∧zeroOk ks (lcells z)=true∧ei.bytes<=1000 then
      match hasSl ks&&deepKs ks with
      |true=>br (decide (0<=l)&&decide (l<=c)&&decide (c<=100000000000)) (k (σ.new o.dst (sl0 l.toNat) (.deep ks (Row.zeros l.toNat) none))) none
      |false=>br (decide (0<=l)&&decide (l<=c)&&decide (c<=100000000000)) (k (σ.new o.dst (sl0 l.toNat) (.row ks true (Row.zeros l.toNat)))) none
     else none
    |none=>none
   |none=>none
  |_,_,_=>none
 |.convert _ dst x=>match C.P.underlying dst,ρ x with
  |some (.slice el),.string s=>match C.P.underlying el,C.P.info? el with
   |some (.int .u8),some ei=>if ei.size=1 then k (σ.new o.dst (sl0 s.size) (.row [.int .u8] false (bytesRow s)))else none
   |_,_=>none
  |_,_=>none
 |.makeMap t none=>match C.P.underlying t with
  |some (.map kt et)=>match C.P.underlying kt,C.P.underlying et with
   |some .string,some (.int kd)=>k (σ.new o.dst (fun id=>.map (some id)) (.map (.int kd) (fun _=>0) (fun _=>false)))
   |some .string,some .bool=>k (σ.new o.dst (fun id=>.map (some id)) (.map .bool (fun _=>0) (fun _=>false)))
   |_,_=>none
  |_=>none
 |.mapUpdate t m x v=>match C.P.underlying t with
  |some (.map kt _)=>match C.P.underlying kt,mapStore σ.mem (ρ m) (ρ x) (ρ v)with
   |some .string,some mem1=>k (({σ with mem:=mem1}:St).put o.dst (.tuple #[]))
   |_,_=>none
  |_=>none
 |.call c=>match c.callee with
  |.builtin .append=>match c.argTypes.toList,c.args.toList.map ρ with
   |[st,xt],[s,x]=>match C.P.underlying st,srcOk C.P xt x with
    |some (.slice el),true=>match C.P.info? el with
     |some ei=>
      let ks:=kinds C.P 8 el
      match ei.zero with
      |some z=>if ei.size=ks.length∧zeroOk ks (lcells z)=true∧ei.bytes<=1000 then
       match appDst (takeDst σ.mem s) ks s,appSrc (takeDst σ.mem s) ks x with
       |some (id,r,n),some r2=>
        br (decide (n+r2.n<=10000000000))
         (k (({σ with mem:=match id with|some i=>(takeDst σ.mem s).set i none|none=>takeDst σ.mem s}:St).new o.dst (sl0 (n+r2.n)) (.row ks true (r.app r2)))) none
       |_,_=>match appDeep σ.mem ks s x with
        |some (mem1,r,n)=>br (decide (n<=10000000000)) (k (({σ with mem:=mem1}:St).new o.dst (sl0 n) (.deep ks r none))) none
        |none=>none
       else none
      |none=>none
     |none=>none
    |_,_=>none
   |_,_=>none
  |.builtin _=>none
  |_=>match calleeOf ρ c with
   |some (g,args)=>match C.X g with
    |some f=>match f args with|some (b,vs)=>br b (k (σ.put o.dst (tupV vs))) none|none=>none
    |none=>match C.ok.contains g with
    |true=>match C.Γ g with
     |some F=>match toDsP σ.mem (parKs C.P g) args with
      |some ds=>match F ds with
       |some (c,rs)=>match fromDs true rs σ.mem with
        |some (vs,mem1)=>br c (k (({σ with mem:=mem1}:St).put o.dst (tupV vs))) none
        |none=>none
       |none=>none
      |none=>none
     |none=>match C.I g with
      |some F=>match F args σ with
       |some (b,v,σ1)=>br b (k (σ1.put o.dst v)) none
       |none=>none
      |none=>inl g args σ fun v σ1=>k (σ1.put o.dst v)
    |false=>none
   |none=>none
 |_=>none
def isEff:Op->Bool
 |.alloc _|.box .. |.build .. |.buildSlice .. |.store .. |.makeSlice .. |.makeMap .. |.mapUpdate .. =>true
 |.call c=>match c.callee with|.builtin .append=>true|.builtin _=>false|_=>true
 |_=>false
noncomputable def guardV{α:Type}(ops:List Oper)(σ:St)(o:Oper)(yes no:St->Option α):Option α:=
 match o.guard with
 |none=>yes σ
 |some (j,want)=>match(ops[j]?).bind (·.dst)with
  |some t=>match getF σ.τ t with
   |.bool b=>match want with
    |true=>br b (σ.putK (some t) (.bool true) yes) (σ.putK (some t) (.bool false) no)
    |false=>br b (σ.putK (some t) (.bool true) no) (σ.putK (some t) (.bool false) yes)
   |.tuple ⟨[]⟩=>no σ
   |_=>none
  |none=>none
noncomputable def frcL{α β:Type}(l:List α):(List α->β)->β:=@List.rec α (fun _=>(List α->β)->β) (fun k=>k []) (fun x _ ih k=>ih fun ys=>k (x::ys)) l
noncomputable def frcB{β:Type}(b:Option Blk)(k:Option Blk->β):β:=match b with
 |some (.box cs)=>frcL cs fun cs'=>k (some (.box cs'))
 |some (.row ks own r)=>k (some (.row ks own r))
 |some (.deep ks r h)=>k (some (.deep ks r h))
 |some (.bor p e j ks r)=>k (some (.bor p e j ks r))
 |some (.map c I B)=>k (some (.map c I B))
 |none=>k none
noncomputable def frcM{β:Type}:List (Option Blk)->(List (Option Blk)->β)->β
 |[],k=>k []
 |b::bs,k=>frcB b fun b'=>frcM bs fun bs'=>k (b'::bs')
noncomputable def frc{β:Type}(σ:St)(k:St->β):β:=frcL σ.τ fun τ=>frcM σ.mem fun m=>k {τ,saved:=σ.saved,mem:=m}
theorem frcL_eq{α β:Type}:∀(l:List α)(k:List α->β),frcL l k=k l
 |[],_=>rfl
 |x::xs,k=>(frcL_eq xs fun ys=>k (x::ys):_)
theorem frcB_eq{β:Type}(b:Option Blk)(k:Option Blk->β):frcB b k=k b:=by
 unfold frcB;split
 ·rw[frcL_eq]
 ·rfl
 ·rfl
 ·rfl
 ·rfl
 ·rfl
theorem frcM_eq{β:Type}:∀(l:List (Option Blk))(k:List (Option Blk)->β),frcM l k=k l
 |[],_=>rfl
 |b::bs,k=>by rw[frcM,frcB_eq,frcM_eq bs]
theorem frc_eq{β:Type}(σ:St)(k:St->β):frc σ k=k σ:=by
 unfold frc;rw[frcL_eq,frcM_eq]
noncomputable def evOps{α:Type}(C:Cx)(inl:FuncId->List Value->St->(Value->St->Option α)->Option α)(ops:List Oper):List Oper->St->(St->Option α)->Option α
 |[],σ,k=>k σ
 |o::rest,σ,k=>guardV ops σ o
   (fun σ=>match isEff o.op||isBytes C.P o.op with
    |true=>evEff C σ o inl fun σ1=>frc σ1 fun σ2=>evOps C inl ops rest σ2 k
    |false=>match viewLoad C.P σ.mem (env σ.τ) o with
     |some (v,m)=>({σ with mem:=m}:St).putK o.dst v fun σ2=>evOps C inl ops rest σ2 k
     |none=>evPure C.P σ.mem (env σ.τ) o fun v=>ask C o v fun v=>σ.putK o.dst v fun σ2=>evOps C inl ops rest σ2 k)
   (fun σ=>σ.putK o.dst (.tuple #[]) fun σ2=>evOps C inl ops rest σ2 k)
noncomputable def evOpsQ{α:Type}(C:Cx)(calls:Bool)(ops:List Oper):List Oper->St->(St->Option α)->Option α
 |[],σ,k=>k σ
 |o::rest,σ,k=>guardV ops σ o
   (fun σ=>match viewLoad C.P σ.mem (env σ.τ) o with
    |some (v,m)=>({σ with mem:=m}:St).putK o.dst v fun σ2=>evOpsQ C calls ops rest σ2 k
    |none=>evQ C calls σ.mem (env σ.τ) o fun v=>ask C o v fun v=>σ.putK o.dst v fun σ2=>evOpsQ C calls ops rest σ2 k)
   (fun σ=>σ.putK o.dst (.tuple #[]) fun σ2=>evOpsQ C calls ops rest σ2 k)
def isTail:Op->Bool
 |.alloc _|.box .. |.buildSlice .. |.store .. |.makeSlice .. =>true
 |.call c=>match c.callee with|.builtin .append=>true|_=>false
 |_=>false
def headN:List Oper->Nat
 |[]=>0
 |o::os=>match isTail o.op with|true=>0|false=>headN os+1
def firstRegion:Code->Nat
 |.region id _ _=>id
 |.seq a _=>firstRegion a
 |.block _ b=>firstRegion b
 |.loop b=>firstRegion b
 |.scope b=>firstRegion b
 |_=>0
def loops:Code->List Code
 |.seq a b=>loops a++loops b
 |.cond _ a b=>loops a++loops b
 |.block _ b=>loops b
 |.loop b=>b::loops b
 |.scope b=>loops b
 |_=>[]
def loopsOf(P:Program)(f:FuncId):List Code:=match(P.funcs[f]?).bind (·.body)with
 |some c=>loops c
 |none=>[]
def refs1:Value->List Nat
 |.pointer (some a)=>[a.block]
 |.slice (some a) _ _=>[a.block]
 |.map (some b)=>[b]
 |_=>[]
def refs:Value->List Nat
 |.agg cs=>cs.toList.flatMap refs1
 |.func _ first captured=>first.toList.flatMap refs1++captured.toList.flatMap refs1
 |v=>refs1 v
def addNew(l:List Nat):List Nat->List Nat
 |[]=>l
 |x::xs=>addNew (match l.contains x with|true=>l|false=>l++[x]) xs
def reach(mem:List (Option Blk)):Nat->List Nat->List Nat
 |0,l=>l
 |n+1,l=>reach mem n (addNew l (l.flatMap fun id=>match(mem[id]? :Option (Option Blk))with|some (some (Blk.box cells))=>cells.flatMap refs|some (some (Blk.bor p _ _ _ _))=>[p]|_=>[]))
def findPos:List Nat->Nat->Option Nat
 |[],_=>none
 |x::xs,id=>match Nat.beq x id with
  |true=>some 0
  |false=>match findPos xs id with|some i=>some (i+1)|none=>none
def ren1(l:List Nat):Value->Value
 |.pointer (some ⟨id,e,s⟩)=>match findPos l id with|some i=>.pointer (some ⟨i,e,s⟩)|none=>unk
 |.slice (some ⟨id,e,s⟩) n c=>match findPos l id with|some i=>.slice (some ⟨i,e,s⟩) n c|none=>unk
 |.bool b=>.bool b
 |.int k n=>.int k n
 |.string s=>.string s
 |.map (some id)=>match findPos l id with|some i=>.map (some i)|none=>unk
 |.pointer none=>.pointer none
 |.slice none n c=>.slice none n c
 |.nilFunc=>.nilFunc
 |.nilIface=>.nilIface
 |.iface s (.bool b)=>.iface s (.bool b)
 |.func fn ⟨[]⟩ ⟨[]⟩=>.func fn #[] #[]
 |_=>unk
def ren(l:List Nat):Value->Value
 |.agg cs=>.agg ⟨cs.toList.map (ren1 l)⟩
 |.func fn first captured=>.func fn ⟨first.toList.map (ren1 l)⟩ ⟨captured.toList.map (ren1 l)⟩
 |v=>ren1 l v
def renB(l:List Nat):Blk->Option Blk
 |.box cells=>some (.box (cells.map (ren l)))
 |.row ks own r=>some (.row ks own r)
 |.deep ks r h=>some (.deep ks r h)
 |.bor p e j ks r=>match findPos l p with|some i=>some (.bor i e j ks r)|none=>none
 |.map c I B=>some (.map c I B)
def keepT(live:List Tmp):Nat->List Value->List Value
 |_,[]=>[]
 |t,v::vs=>(match live.contains t with|true=>v|false=>unk)::keepT live (t+1) vs
def decK:Nat->Nat->List CK×Nat
 |0,c=>([],c)
 |n+1,c=>match c%16 with
  |1=>(.int .i8::(decK n (c/16)).1,(decK n (c/16)).2)
  |2=>(.int .i16::(decK n (c/16)).1,(decK n (c/16)).2)
  |3=>(.int .i32::(decK n (c/16)).1,(decK n (c/16)).2)
  |4=>(.int .i64::(decK n (c/16)).1,(decK n (c/16)).2)
  |5=>(.int .u8::(decK n (c/16)).1,(decK n (c/16)).2)
  |6=>(.int .u16::(decK n (c/16)).1,(decK n (c/16)).2)
  |7=>(.int .u32::(decK n (c/16)).1,(decK n (c/16)).2)
  |8=>(.int .u64::(decK n (c/16)).1,(decK n (c/16)).2)
  |9=>(.bool::(decK n (c/16)).1,(decK n (c/16)).2)
  |10=>(.str::(decK n (c/16)).1,(decK n (c/16)).2)
  |11=>(.slice (decK n (c/16)).1::(decK n (decK n (c/16)).2).1,(decK n (decK n (c/16)).2).2)
  |12=>([],c/16)
  |_=>([],0)
noncomputable def rowify:List Tmp->St->St
 |[],σ=>σ
 |t::ts,σ=>rowify ts (match Nat.blt t 10000 with
  |true=>σ
  |false=>match getF σ.τ (t%10000)with
   |.slice none 0 0=>{σ with τ:=σ.τ.set (t%10000) (.slice (some ⟨σ.mem.length,0,some 0⟩) 0 0),mem:=σ.mem++[some (outB (decK 40 (t/10000)).1 .nil)]}
   |.pointer (some ⟨id,0,some 0⟩)=>match σ.mem[id]? with
    |some (some (.box cells))=>match cells[(t/10000)%64]? with
     |some (.slice none 0 0)=>{σ with mem:=(σ.mem++[some (outB (decK 40 (t/640000)).1 .nil)]).set id (some (.box (cells.set ((t/10000)%64) (.slice (some ⟨σ.mem.length,0,some 0⟩) 0 0))))}
     |_=>σ
    |_=>σ
   |_=>σ)
def norm0(live:List Tmp)(σ:St):St:=
 let τ:=keepT live 0 σ.τ
 let l:=reach σ.mem 2 (addNew [] (τ.flatMap refs++σ.saved.flatMap (·.flatMap refs)))
 {τ:=τ.map (ren l),saved:=σ.saved.map (·.map (ren l)),mem:=l.map fun id=>(match σ.mem[id]? with|some (some b)=>renB l b|_=>none)}
noncomputable def norm(live:List Tmp)(σ:St):St:=norm0 live (rowify live σ)
noncomputable def nrm(live:Option (List Tmp))(σ:St):St:=match live with
 |some l=>norm l σ
 |none=>σ
noncomputable def rnd(lv:List Tmp)(lx:Option (List Tmp)){α:Type}(R:St->Option α)(K:X->St->Option α):X->St->Option α:=fun x σ=>match x with
 |.normal=>R (norm lv σ)
 |.exit id=>K (.exit id) (nrm lx σ)
 |.ret=>K .ret (nrm lx σ)
noncomputable def rounds(lv:List Tmp)(lx:Option (List Tmp)){α:Type}(f:St->(X->St->Option α)->Option α):Nat->St->(X->St->Option α)->Option α
 |0,_,_=>none
 |n+1,σ,K=>f σ (rnd lv lx (fun σ1=>rounds lv lx f n σ1 K) K)
def isSt:Op->Bool
 |.store .. =>true
 |_=>false
def floatB(P:Program)(o:Oper):Bool:=match o.op with
 |.move _|.assign _=>true
 |.fieldAddr s _ f=>match P.underlying s with
  |some (.struct fs)=>match fs[f]? with
   |some fl=>match P.info? fl.type with|some fi=> !Nat.beq fi.size 0|none=>false
   |none=>false
  |_=>false
 |_=>false
def waitsT(md:Region.Mode)(ops:Array Oper):Nat->Nat->Nat->Bool
 |0,_,_=>false
 |n+1,j,i=>Region.waitsFor md ops j i||(List.range ops.size).any fun m=>Region.waitsFor md ops j m&&waitsT md ops n m i
def pairsB(P:Program)(md:Region.Mode)(ops:Array Oper)(listed:Array Bool)(k:Nat)(ok:Oper):Bool:=
 (List.range ops.size).all fun j=>Nat.beq j k||listed.getD j true||waitsT md ops 4 j k||(match ops[j]? with
  |some oj=>ok.apart ops oj&&(!isSt oj.op||floatB P ok)
  |none=>true)
def headsB(P:Program)(md:Region.Mode)(ops:Array Oper):List Nat->Array Bool->Bool
 |[],_=>true
 |k::ks,listed=>(Region.ready md ops listed).contains k&&(match ops[k]? with|some ok=> !isSt ok.op&&pairsB P md ops listed k ok|none=>false)&&headsB P md ops ks (listed.setIfInBounds k true)
def listAll:List Nat->Array Bool->Array Bool
 |[],l=>l
 |k::ks,l=>listAll ks (l.setIfInBounds k true)
def tailsB(md:Region.Mode)(ops:Array Oper):List Nat->Array Bool->Bool
 |[],listed=>(Region.ready md ops listed).isEmpty
 |t::ts,listed=>decide (Region.ready md ops listed=[t])&&(match ops[t]? with|some o=>isSt o.op|none=>false)&&tailsB md ops ts (listed.setIfInBounds t true)
def headIx(ops:Array Oper):List Nat:=(List.range ops.size).filter fun i=>(ops[i]?).all fun o=> !isSt o.op
def tailIx(ops:Array Oper):List Nat:=(List.range ops.size).filter fun i=>(ops[i]?).any fun o=>isSt o.op
def ordB(P:Program)(md:Region.Mode)(ops:Array Oper):Bool:=Region.noSelect ops&&Nat.beq ((headIx ops).length+(tailIx ops).length) ops.size&&headsB P md ops (headIx ops) (Array.replicate ops.size false)&&tailsB md ops (tailIx ops) (listAll (headIx ops) (Array.replicate ops.size false))
def isTl:Op->Bool
 |.store .. =>true
 |.buildSlice .. =>true
 |.call c=>match c.callee with|.builtin .append=>true|_=>false
 |_=>false
def floatT(P:Program)(o:Oper):Bool:=floatB P o||(match o.op with|.nilCheck _=>true|_=>false)
def isBs:Op->Bool
 |.buildSlice .. =>true
 |_=>false
def tlI(ops:Array Oper):Nat->Nat->Bool
 |0,_=>false
 |n+1,i=>(ops[i]?).any (fun o=>isTl o.op)||(List.range ops.size).any fun m=>Region.waitsFor .any ops i m&&tlI ops n m
def tlX(ops:Array Oper)(i:Nat):Bool:=tlI ops 4 i
def pairsT(P:Program)(md:Region.Mode)(ops:Array Oper)(listed:Array Bool)(k:Nat)(ok:Oper):Bool:=
 (List.range ops.size).all fun j=>Nat.beq j k||listed.getD j true||waitsT md ops 8 j k||(match ops[j]? with
  |some oj=>ok.apart ops oj&&(!tlX ops j||floatT P ok||isBs oj.op)
  |none=>true)
def headsT(P:Program)(md:Region.Mode)(ops:Array Oper):List Nat->Array Bool->Bool
 |[],_=>true
 |k::ks,listed=>(Region.ready md ops listed).contains k&&(match ops[k]? with|some ok=> !tlX ops k&&pairsT P md ops listed k ok|none=>false)&&headsT P md ops ks (listed.setIfInBounds k true)
def tailsT(md:Region.Mode)(ops:Array Oper):List Nat->Array Bool->Bool
 |[],listed=>(Region.ready md ops listed).isEmpty
 |t::ts,listed=>decide (Region.ready md ops listed=[t])&&((ops[t]?).isSome&&tlX ops t)&&tailsT md ops ts (listed.setIfInBounds t true)
def headT(ops:Array Oper):List Nat:=(List.range ops.size).filter fun i=> !tlX ops i
def tailT(ops:Array Oper):List Nat:=(List.range ops.size).filter fun i=>tlX ops i
def ordT(P:Program)(md:Region.Mode)(ops:Array Oper):Bool:=Region.noSelect ops&&Nat.beq ((headT ops).length+(tailT ops).length) ops.size&&headsT P md ops (headT ops) (Array.replicate ops.size false)&&tailsT md ops (tailT ops) (listAll (headT ops) (Array.replicate ops.size false))
def manyLit(P:Program)(ops:Array Oper):Bool:=ops.toList.any fun o=>match o.op with
 |.buildSlice t _ _=>(match P.underlying t with|some (.slice el)=>manyS (kinds P 8 el)|_=>false)
 |_=>false
def idOf:Value->Nat
 |.pointer (some a)=>a.block
 |_=>0
def inBox(mem:List (Option Blk))(id:Nat):Bool:=match mem[id]? with|some (some (.box _))=>true|_=>false
def isTmp(d:Nat):Operand->Bool
 |.tmp t=>Nat.beq t d
 |_=>false
def opndsC:Op->Option (List Operand)
 |.move x=>some [x]
 |.assign x=>some [x]
 |.pick c a b=>some [c,a,b]
 |.load _ a=>some [a]
 |.nilCheck x=>some [x]
 |.fieldAddr _ x _=>some [x]
 |.indexAddr _ x i=>some [x,i]
 |.index _ x i=>some [x,i]
 |.binOp _ _ x y _=>some [x,y]
 |.unOp _ _ x=>some [x]
 |.convert _ _ x=>some [x]
 |.field _ x _=>some [x]
 |.extract x _=>some [x]
 |.slice _ x lo hi mx=>some (x::(lo.toList++hi.toList++mx.toList))
 |.build _ parts=>some (parts.toList.map (·.2))
 |.call c=>match c.callee with
  |.value f=>some (f::c.args.toList)
  |.builtin .len=>some c.args.toList
  |.builtin .min=>some c.args.toList
  |.builtin .max=>some c.args.toList
  |.builtin .append=>some c.args.toList
  |_=>none
 |.store _ a x=>some [a,x]
 |.alloc _=>some []
 |.box _ x=>some [x]
 |.makeSlice _ l c=>some [l,c]
 |.buildSlice _ _ parts=>some (parts.toList.map (·.2))
 |_=>none
def isMkR(P:Program):Op->Bool
 |.makeSlice .. =>true
 |.buildSlice .. =>true
 |.call c=>match c.callee with
  |.value (.func g)=>(match resKs P g with|[[.slice _]]=>true|_=>false)
  |.builtin .append=>true
  |_=>false
 |_=>false
def isMk(P:Program):Op->Bool
 |.alloc _=>true
 |.box .. =>true
 |op=>isMkR P op
def isWr(P:Program)(op:Op):Bool:=isSt op||isMk P op
def prd(md:Region.Mode)(ops:Array Oper):Nat->Nat->List Nat
 |0,_=>[]
 |n+1,i=>match ops[i]? with
  |some o=>o.after.toList.flatMap fun e=>match Region.binds md e with|true=>e.on::prd md ops n e.on|false=>[]
  |none=>[]
def waitsC(md:Region.Mode)(ops:Array Oper)(i j:Nat):Bool:=(prd md ops 12 i).any fun k=>Nat.beq k j
noncomputable def mkBlk(C:Cx)(mem:List (Option Blk))(ρ:Operand->Value):Op->Option (Bool×Blk×(Nat->Value))
 |.alloc t=>match(C.P.info? t).bind (·.zero)with
  |some z=>match atom z with|true=>some (true,.box (lcells z),ptr0)|false=>none
  |none=>none
 |.box _ x=>match isUnk (ρ x)with|false=>some (true,.box (lcells (ρ x)),ptr0)|true=>none
 |.makeSlice t l c=>match C.P.underlying t,ρ l,ρ c with
  |some (.slice el),.int _ l,.int _ c=>match C.P.info? el with
   |some ei=>match ei.zero with
    |some z=>if ei.size=(kinds C.P 8 el).length∧zeroOk (kinds C.P 8 el) (lcells z)=true∧ei.bytes<=1000∧hasSl (kinds C.P 8 el)=false then
      some (decide (0<=l)&&decide (l<=c)&&decide (c<=100000000000),.row (kinds C.P 8 el) true (Row.zeros l.toNat),sl0 l.toNat)
     else none
    |none=>none
   |none=>none
  |_,_,_=>none
 |.buildSlice t len parts=>match C.P.underlying t with
  |some (.slice el)=>match flat (kinds C.P 8 el),C.P.info? el,(parts.toList.map fun p=>(p.1,ρ p.2)).all (fun p=> !isUnk p.2)with
   |true,some ei,true=>match ei.zero with
    |some z=>if len*ei.size<=16777216∧ei.size=(kinds C.P 8 el).length∧zeroOk (kinds C.P 8 el) (lcells z)=true then
      match Instr.fill (fun i=>some (i*ei.size,ei.size)) ((Array.range (len*ei.size)).map (z.cells[· %z.cells.size]!)) (parts.toList.map fun p=>(p.1,ρ p.2))with
      |some cells=>match Nat.beq len 0 with
       |true=>some (true,.box [],fun _=>.slice none 0 0)
       |false=>match litRow [] (kinds C.P 8 el) len cells.toList len (Row.zeros len)with
        |some (r,_)=>some (true,.row (kinds C.P 8 el) true r,sl0 len)
        |none=>none
      |none=>none
     else none
    |none=>none
   |_,_,_=>none
  |_=>none
 |.call c=>match c.callee with
  |.builtin .append=>match c.argTypes.toList,c.args.toList.map ρ with
   |[st,xt],[.slice none 0 0,x]=>match C.P.underlying st,srcOk C.P xt x with
    |some (.slice el),true=>match C.P.info? el with
     |some ei=>match ei.zero with
      |some z=>if ei.size=(kinds C.P 8 el).length∧zeroOk (kinds C.P 8 el) (lcells z)=true∧ei.bytes<=1000 then
        match appSrc mem (kinds C.P 8 el) x with
        |some r2=>some (decide (0+r2.n<=10000000000),.row (kinds C.P 8 el) true (Row.nil.app r2),sl0 (0+r2.n))
        |none=>none
       else none
      |none=>none
     |none=>none
    |_,_=>none
   |_,_=>none
  |.builtin _=>none
  |_=>match calleeOf ρ c with
   |some (g,args)=>match C.X g,C.ok.contains g,C.Γ g,toDs mem (parKs C.P g) args with
    |none,true,some F,some ds=>match F ds with
     |some (cnd,[.slice ks r])=>match flat ks with
      |true=>some (cnd,.row ks true r,sl0 r.n)
      |false=>none
     |_=>none
    |_,_,_,_=>none
   |none=>none
 |_=>none
noncomputable def viewSl(P:Program)(mem:List (Option Blk))(ρ:Operand->Value):Op->Option (Blk×(Nat->Value))
 |.load t a=>match ρ a,P.info? t,aggT P t with
  |.pointer (some ⟨id,e,some j⟩),some i,some false=>match mem[id]? with
   |some (some (.row ks _ r))=>match Nat.beq i.size 1,(ks.drop j).take 1 with
    |true,[.slice sub]=>some (.row sub false (r.R e j),sl0 (r.R e j).n)
    |_,_=>none
   |some (some (.deep ks r none))=>match Nat.beq i.size 1,(ks.drop j).take 1 with
    |true,[.slice sub]=>some (.bor id e j sub (r.R e j),sl0 (r.R e j).n)
    |_,_=>none
   |_=>none
  |_,_,_=>none
 |_=>none
def ids1:Value->Option (List Nat)
 |.bool _|.int _ _|.string _|.pointer none|.nilFunc|.nilIface|.slice none _ _|.chan _|.func _ ⟨[]⟩ ⟨[]⟩=>some []
 |.pointer (some ⟨id,_,_⟩)=>some [id]
 |.slice (some ⟨id,_,_⟩) _ _=>some [id]
 |_=>none
def idsL:List Value->Option (List Nat)
 |[]=>some []
 |x::xs=>match ids1 x,idsL xs with
  |some a,some b=>some (a++b)
  |_,_=>none
def idsA:Value->Option (List Nat)
 |.agg cs=>idsL cs.toList
 |.func _ xs us=>match idsL xs.toList,idsL us.toList with
  |some a,some b=>some (a++b)
  |_,_=>none
 |x=>ids1 x
def idsT:List Value->Option (List Nat)
 |[]=>some []
 |x::xs=>match idsA x,idsT xs with
  |some a,some b=>some (a++b)
  |_,_=>none
def idsV:Value->Option (List Nat)
 |.tuple vs=>idsT vs.toList
 |x=>idsA x
noncomputable def rdsOf(ρ:Operand->Value):Op->Option (List Nat)
 |.load _ a=>idsT [ρ a]
 |.indexAddr _ x _=>idsT [ρ x]
 |.slice _ x _ _ _=>idsT [ρ x]
 |.call c=>match c.callee with
  |.builtin .append=>idsT (c.args.toList.map ρ)
  |.value f=>idsT (ρ f::c.args.toList.map ρ)
  |_=>some []
 |_=>some []
structure Rc where
 kd:Nat
 id:Nat
 vs:List Nat
 rs:List Nat
def rc0:Rc:=⟨0,0,[],[]⟩
noncomputable def ordRunC{α:Type}(C:Cx)(all:List Oper):List Oper->Nat->St->List Rc->(St->List Rc->Option α)->Option α
 |[],_,σ,rc,k=>k σ rc
 |o::rest,nx,σ,rc,k=>guardV all σ o (fun σ=>match rdsOf (env σ.τ) o.op with
  |none=>none
  |some rs=>match isMk C.P o.op with
   |true=>match mkBlk C σ.mem (env σ.τ) o.op,σ.mem[nx]? with
    |some (c,b,f),some none=>br c (frc (({σ with mem:=σ.mem.set nx (some b)}:St).put o.dst (f nx)) fun σ1=>ordRunC C all rest (nx+1) σ1 (rc++[⟨2,nx,[],rs⟩]) k) none
    |_,_=>none
   |false=>match o.op with
    |.store t a x=>match inBox σ.mem (idOf (env σ.τ a)),storeV C.P σ.mem t (env σ.τ a) (env σ.τ x)with
     |true,some m=>frc {σ with mem:=m} fun σ1=>ordRunC C all rest nx σ1 (rc++[⟨1,idOf (env σ.τ a),[],rs⟩]) k
     |_,_=>none
    |op=>match viewSl C.P σ.mem (env σ.τ) op with
     |some (b,f)=>match σ.mem[nx]? with
      |some none=>frc (({σ with mem:=σ.mem.set nx (some b)}:St).put o.dst (f nx)) fun σ1=>ordRunC C all rest (nx+1) σ1 (rc++[⟨2,nx,[],rs⟩]) k
      |_=>none
     |none=>evQ C true σ.mem (env σ.τ) o fun v=>match idsV v with
      |some l=>σ.putK o.dst v fun σ1=>ordRunC C all rest nx σ1 (rc++[⟨0,0,l,rs⟩]) k
      |none=>none)
   (fun σ=>σ.putK o.dst (.tuple ⟨[]⟩) fun σ1=>ordRunC C all rest nx σ1 (rc++[rc0]) k)
def leadB(md:Region.Mode)(ops:Array Oper)(i:Nat):Bool:=match ops[i]? with
 |some oi=>(match oi.op,oi.guard with|.move _,none=>true|_,_=>false)&&oi.after.isEmpty&&
  (List.range ops.size).all fun j=>Nat.beq j i||waitsC md ops j i||(match ops[j]? with|some oj=>oi.apart ops oj|none=>true)
 |none=>false
def leadN(md:Region.Mode)(ops:Array Oper):Nat->Nat->Nat
 |0,i=>i
 |n+1,i=>match leadB md ops i with|true=>leadN md ops n (i+1)|false=>i
def chainN(md:Region.Mode)(ops:Array Oper)(z:Nat):Nat->Nat
 |0=>0
 |j+1=>match(List.range j).all (fun k=>Nat.blt k z||waitsC md ops j k)with|true=>chainN md ops z j|false=>j+1
def chainM(md:Region.Mode)(ops:Array Oper)(z:Nat):Nat:=Nat.max (chainN md ops z ops.size) z
def lateB(ops:Array Oper)(m k:Nat):Bool:=match ops[m]?,ops[k]? with
 |some om,some ok=>isBs om.op&&ok.apart ops om&&(match ok.op,ok.guard with|.load ..,none=>true|.fieldAddr ..,none=>true|_,_=>false)
 |_,_=>false
def lateC(md:Region.Mode)(ops:Array Oper)(z m:Nat):Bool:=(List.range m).all fun k=>Nat.blt k z||waitsC md ops m k||(lateB ops m k&&(List.range m).all fun j=>Nat.ble j k||waitsC md ops m j||waitsC md ops j k)
def deepBs(P:Program)(ops:Array Oper)(n:Nat):Bool:=match ops[n]? with
 |some o=>(match o.op with|.buildSlice t _ _=>(match P.underlying t with|some (.slice el)=> !flat (kinds P 8 el)|_=>false)|_=>false)
 |none=>false
def chainL(P:Program)(md:Region.Mode)(ops:Array Oper)(z:Nat):Nat:=match chainM md ops z with
 |0=>0
 |n+1=>match Nat.ble z n&&(deepBs P ops n&&lateC md ops z n)with|true=>n|false=>n+1
def ordTextC(md:Region.Mode)(ops:Array Oper)(z m b0:Nat)(rc:List Rc):Bool:=
 Nat.ble z m&&((List.range z).all (leadB md ops)&&((List.range ops.size).all (fun i=>match ops[i]? with
  |none=>false
  |some oi=>oi.after.all (fun e=> !Region.binds md e||Nat.blt e.on i)&&(Nat.blt i m||((List.range i).all (fun k=>Nat.blt k z||waitsC md ops i k)||(Nat.beq i m&&(lateC md ops z m&&(List.range m).all fun k=>Nat.blt k z||waitsC md ops m k||Nat.beq (rc.getD k rc0).kd 0)))))&&
 (List.range m).all fun i=>match ops[i]? with
  |none=>true
  |some oi=>(match oi.guard with|none=>true|some (j,_)=>Nat.blt j i&&waitsC md ops i j)&&(match isSt oi.op,oi.dst with|true,some _=>false|_,_=>true)&&
   ((rc.getD i rc0).vs.all fun d=>Nat.blt d b0||(List.range m).any fun j=>Nat.beq (rc.getD j rc0).id d&&waitsC md ops i j&&Nat.beq (rc.getD j rc0).kd 2)&&
   (!Nat.beq (rc.getD i rc0).kd 2||Nat.ble b0 (rc.getD i rc0).id)&&
   (match opndsC oi.op with
   |none=>false
   |some xs=>((List.range ops.size).all fun j=>match ops[j]? with
     |none=>false
     |some oj=>match oj.dst with
      |none=>true
      |some d=>Nat.beq i j||(match oi.dst with|some d'=> !Nat.beq d d'|none=>true))&&
    (List.range m).all fun j=>match ops[j]? with
     |none=>true
     |some oj=>
      (match oj.dst with
      |none=>true
      |some d=> !(xs.any (isTmp d))||(Nat.blt j i&&waitsC md ops i j))&&
      (!(!Nat.beq (rc.getD i rc0).kd 0&& !Nat.beq (rc.getD j rc0).kd 0&&Nat.blt j i&&Nat.beq (rc.getD i rc0).id (rc.getD j rc0).id)||waitsC md ops i j)&&
      (!(!Nat.beq (rc.getD j rc0).kd 0&&(rc.getD i rc0).rs.any (Nat.beq (rc.getD j rc0).id))||Nat.beq i j||(waitsC md ops i j&&Nat.blt j i)||(waitsC md ops j i&&Nat.blt i j))&&
      (!(Nat.beq (rc.getD i rc0).kd 2&&Nat.beq (rc.getD j rc0).kd 2)||Nat.beq i j|| !Nat.beq (rc.getD i rc0).id (rc.getD j rc0).id))))
def noCall(l:List Oper):Bool:=l.all fun o=>match o.op with
 |.call c=>(match c.callee with|.value _=>false|_=>true)
 |_=>true
def plainRes(P:Program)(f:FuncId):Bool:=(resKs P f).all fun ks=>ks.all fun k=>match k with|.slice _=>false|.other=>false|_=>true
def callsOk(C:Cx)(l:List Oper):Bool:=l.all fun o=>match o.op with
 |.call c=>(match c.callee with|.value (.func f)=>((C.Γ f).isSome||(C.X f).isSome)&&plainRes C.P f|_=>true)
 |_=>true
noncomputable def evCode(C:Cx)(fid:FuncId)(lp:Bool)(inl:FuncId->List Value->St->(Value->St->OD)->OD):Code->St->(X->St->OD)->OD
 |.skip,σ,k=>k .normal σ
 |.label _,σ,k=>k .normal σ
 |.region _ ops false,σ,k=>evOps C inl ops.toList ops.toList σ (k .normal)
 |.region _ ops true,σ,k=>match Nat.beq (headN ops.toList) ops.toList.length&&callsOk C ops.toList&&Region.lexB .any ops with
  |true=>evOpsQ C true ops.toList ops.toList σ (k .normal)
  |false=>match noCall (ops.toList.take (headN ops.toList))&&Region.lexTailB .any ops (headN ops.toList)with
   |true=>evOpsQ C false ops.toList (ops.toList.take (headN ops.toList)) σ fun σ1=>evOps C inl ops.toList (ops.toList.drop (headN ops.toList)) σ1 (k .normal)
   |false=>match callsOk C (ops.toList.take (headN ops.toList))&&Region.lexTailB .any ops (headN ops.toList)with
   |true=>evOpsQ C true ops.toList (ops.toList.take (headN ops.toList)) σ fun σ1=>evOps C inl ops.toList (ops.toList.drop (headN ops.toList)) σ1 (k .normal)
   |false=>match noCall ops.toList&&(ops.toList.all (fun o=>isSt o.op|| !isTail o.op)&&ordB C.P .any ops)with
    |true=>evOpsQ C false ops.toList ((headIx ops).filterMap (ops[·]?)) σ fun σ1=>evOps C inl ops.toList ((tailIx ops).filterMap (ops[·]?)) σ1 (k .normal)
    |false=>match noCall ops.toList&&manyLit C.P ops&&ordT C.P .any ops with
    |true=>evOpsQ C false ops.toList ((headT ops).filterMap (ops[·]?)) σ fun σ1=>evOps C inl ops.toList ((tailT ops).filterMap (ops[·]?)) σ1 (k .normal)
    |false=>ordRunC C ops.toList (ops.toList.take (chainL C.P .any ops (leadN .any ops ops.size 0))) σ.mem.length {σ with mem:=σ.mem++List.replicate (chainL C.P .any ops (leadN .any ops ops.size 0)) none} [] fun σ1 rc=>match Region.noSelect ops&&ordTextC .any ops (leadN .any ops ops.size 0) (chainL C.P .any ops (leadN .any ops ops.size 0)) σ.mem.length rc with
     |true=>evOps C inl ops.toList (ops.toList.drop (chainL C.P .any ops (leadN .any ops ops.size 0))) σ1 (k .normal)
     |false=>none
 |.seq a b,σ,k=>evCode C fid lp inl a σ fun x σ1=>match x with
  |.normal=>evCode C fid lp inl b σ1 k
  |.exit id=>k (.exit id) σ1
  |.ret=>k .ret σ1
 |.cond c a b,σ,k=>match env σ.τ c with
  |.bool t=>br t (evCode C fid lp inl a σ k) (evCode C fid lp inl b σ k)
  |_=>none
 |.block id b,σ,k=>evCode C fid lp inl b σ fun x σ1=>match x with
  |.normal=>k .normal σ1
  |.exit id'=>match Nat.beq id' id with|true=>k .normal σ1|false=>k (.exit id') σ1
  |.ret=>k .ret σ1
 |.loop b,σ,k=>match lp,C.Λ fid (firstRegion b)with
  |true,some L=>L (norm (C.lv fid (firstRegion b)) σ) k
  |_,_=>rounds (C.lv fid (firstRegion b)) (C.lx fid (firstRegion b)) (evCode C fid lp inl b) C.N (norm (C.lv fid (firstRegion b)) σ) k
 |.exit id,σ,k=>k (.exit id) σ
 |.ret,σ,k=>k .ret σ
 |_,_,_=>none
noncomputable def resV(P:Program)(σ:St):List ResultVar->Option (List Value)
 |[]=>some []
 |.tmp t::rs=>(resV P σ rs).map (getF σ.τ t:: ·)
 |.cell a t::rs=>match loadV P σ.mem t (getF σ.τ a)with
  |some v=>(resV P σ rs).map (v:: ·)
  |none=>none
noncomputable def inl(C:Cx):Nat->FuncId->List Value->St->(Value->St->OD)->OD
 |0,_,_,_,_=>none
 |d+1,f,args,σ,k=>match C.P.funcs[f]? with
  |some fn=>match fn.body with
   |some c=>evCode C f (Nat.ble 4 d) (inl C d) c {τ:=args++List.replicate (fn.ntmps-args.length) (.tuple #[]),saved:=σ.τ::σ.saved,mem:=σ.mem} fun x σ1=>
    match x with
    |.exit _=>none
    |_=>match resV C.P σ1 fn.results.toList,σ1.saved with
     |some vs,τ::saved=>k (tupV vs) {τ,saved,mem:=σ1.mem}
     |_,_=>none
   |none=>none
  |none=>none
def resD1(ck:CK)(mem:List (Option Blk))(x:Value):Option (D×List (Option Blk)):=
 match x with
 |.slice none 0 0=>some (.slice (rsubOf ck) .nil,mem)
 |.slice (some ⟨id,e,some 0⟩) len 0=>match mem[id]? with
  |some (some (.row ks true r))=>match flat ks with
   |true=>some (.slice ks (winOf r e len),mem.set id none)
   |false=>none
  |some (some (.deep ks r none))=>match flat ks with
   |true=>none
   |false=>some (.slice ks (winOf r e len),dropB id (mem.set id none))
  |_=>none
 |.iface _ (.bool b)=>some (.err b,mem)
 |x=>(match atom1 x with|true=>some (.v x,mem)|false=>none)
def resD1s(mem:List (Option Blk)):List CK->List Value->Option (List D×List (Option Blk))
 |_,[]=>some ([],mem)
 |cks,x::xs=>match resD1 (cks.headD .other) mem x with
  |some (d,mem1)=>match resD1s mem1 cks.tail xs with
   |some (ds,mem2)=>some (d::ds,mem2)
   |none=>none
  |none=>none
def resD(cks:List CK)(mem:List (Option Blk))(x:Value):Option (D×List (Option Blk)):=
 match x with
 |.agg cs=>match resD1s mem cks cs.toList with|some (ds,mem1)=>some (.agg ds,mem1)|none=>none
 |x=>resD1 (cks.headD .other) mem x
def resDs(mem:List (Option Blk)):List (List CK)->List Value->OD
 |_,[]=>some []
 |ckss,x::xs=>match resD (ckss.headD []) mem x with
  |some (d,mem1)=>match resDs mem1 ckss.tail xs with
   |some ds=>some (d::ds)
   |none=>none
  |none=>none
noncomputable def evF(C:Cx)(d:Nat)(f:FuncId)(args:List D):OD:=
 match fromDs false args []with
 |some (vs,mem)=>
  inl C (d+1) f vs {τ:=[],saved:=[],mem} fun v σ=>
   match v with
   |.tuple ⟨[_]⟩=>none
   |.tuple vs=>resDs σ.mem (resKs C.P f) vs.toList
   |v=>resDs σ.mem (resKs C.P f) [v]
 |none=>none
end
open Go.RowKit
structure Loc where
 b:Nat
 off:Nat
 sz:Nat
 tot:Nat
 n:Nat
 own:Bool
 sub:Nat->Nat->Option Nat
abbrev s0:Nat->Nat->Option Nat:=fun _ _=>none
def Loc.foot(L:Loc)(b:Nat):Prop:=(0<L.tot∧b=L.b)∨∃e j,L.sub e j=some b
def Loc.adr(L:Loc)(e j:Nat):Addr:=⟨L.b,L.off+e*L.sz+j,none⟩
abbrev Map:=Nat->Option Loc
inductive V(ρ:Map)(N:Nat):Value->Value->Prop
 |unk{v:Value}:V ρ N (.chan none) v
 |bool{b:Bool}:V ρ N (.bool b) (.bool b)
 |int{k:IntKind}{n:Int}:V ρ N (.int k n) (.int k n)
 |str{s:ByteArray}:V ρ N (.string s) (.string s)
 |ptrNil:V ρ N (.pointer none) (.pointer none)
 |nilFunc:V ρ N .nilFunc .nilFunc
 |nilIface:V ρ N .nilIface .nilIface
 |iface{s:TypeId}{b:Bool}{c:Value}:(b=true->∃t x,c=.iface t x)->(b=false->c=.nilIface)->V ρ N (.iface s (.bool b)) c
 |sliceNil{a:Option Addr}:V ρ N (.slice none 0 0) (.slice a 0 0)
 |mapDead{id:Nat}{r:Option Nat}:id<N->ρ id=none->V ρ N (.map (some id)) (.map r)
 |map{id:Nat}{L:Loc}:id<N->ρ id=some L->V ρ N (.map (some id)) (.map (some L.b))
 |ptrDead{id e:Nat}{s:Option Nat}{p:Addr}:id<N->ρ id=none->V ρ N (.pointer (some ⟨id,e,s⟩)) (.pointer (some p))
 |sliceDead{id e:Nat}{s:Option Nat}{n c:Nat}{a:Option Addr}{c':Nat}:id<N->ρ id=none->V ρ N (.slice (some ⟨id,e,s⟩) n c) (.slice a n c')
 |ptr{id e j:Nat}{L:Loc}:id<N->ρ id=some L->e<L.n->V ρ N (.pointer (some ⟨id,e,some j⟩)) (.pointer (some (L.adr e j)))
 |slice{id e n:Nat}{L:Loc}{a:Option Addr}{cap:Nat}:id<N->ρ id=some L->e+n<=L.n->n<=cap->(0<n->a=some (L.adr e 0))->(L.own=true->e+cap<=L.tot∧(cap=0∨a=some (L.adr e 0)))->V ρ N (.slice (some ⟨id,e,some 0⟩) n 0) (.slice a n cap)
 |agg{xs ys:Array Value}:xs.size=ys.size->(∀(i:Nat)(x y:Value),xs[i]? =some x->ys[i]? =some y->V ρ N x y)->V ρ N (.agg xs) (.agg ys)
 |tuple{xs ys:Array Value}:xs.size=ys.size->(∀(i:Nat)(x y:Value),xs[i]? =some x->ys[i]? =some y->V ρ N x y)->V ρ N (.tuple xs) (.tuple ys)
 |func{fn:Fn}{xs ys us vs:Array Value}:xs.size=ys.size->(∀(i:Nat)(x y:Value),xs[i]? =some x->ys[i]? =some y->V ρ N x y)->us.size=vs.size->(∀(i:Nat)(x y:Value),us[i]? =some x->vs[i]? =some y->V ρ N x y)->
   V ρ N (.func fn xs us) (.func fn ys vs)
def Less(ρ ρ':Map)(id:Nat):Prop:=ρ' id=ρ id∨ρ' id=none∨∃L o sub,ρ id=some L∧ρ' id=some {L with own:=o,sub:=sub}∧(o=true->L.own=true)
theorem V.mono{ρ ρ':Map}{N N':Nat}(hN:N<=N')(hρ:∀id,id<N->Less ρ ρ' id){x y:Value}(h:V ρ N x y):V ρ' N' x y:=by
 induction h with
 |unk=>exact .unk
 |bool=>exact .bool
 |int=>exact .int
 |str=>exact .str
 |ptrNil=>exact .ptrNil
 |nilFunc=>exact .nilFunc
 |nilIface=>exact .nilIface
 |iface h1 h2=>exact .iface h1 h2
 |sliceNil=>exact .sliceNil
 |mapDead h1 h2=>exact .mapDead (by omega) (by rcases hρ _ h1 with h|h|⟨L,_,_,h,_⟩<;>simp_all)
 |@map id L h1 h2=>
  rcases hρ _ h1 with h|h|⟨M,o,sb,h,h',_⟩
  ·exact .map (by omega) (h.trans h2)
  ·exact .mapDead (by omega) h
  ·rw[h2]at h;cases h;have h4:=V.map (ρ:=ρ') (N:=N') (Nat.lt_of_lt_of_le h1 hN) h';exact h4
 |ptrDead h1 h2=>exact .ptrDead (by omega) (by rcases hρ _ h1 with h|h|⟨L,_,_,h,_⟩<;>simp_all)
 |sliceDead h1 h2=>exact .sliceDead (by omega) (by rcases hρ _ h1 with h|h|⟨L,_,_,h,_⟩<;>simp_all)
 |@ptr id e j L h1 h2 h3=>
  rcases hρ _ h1 with h|h|⟨M,o,sb,h,h',_⟩
  ·exact .ptr (by omega) (h.trans h2) h3
  ·exact .ptrDead (by omega) h
  ·rw[h2]at h;cases h;have h4:=V.ptr (ρ:=ρ') (N:=N') (j:=j) (Nat.lt_of_lt_of_le h1 hN) h' h3;exact h4
 |@slice id e n L a cap h1 h2 h3 h4 h5 h6=>
  rcases hρ _ h1 with h|h|⟨M,o,sb,h,h',ho⟩
  ·exact .slice (by omega) (h.trans h2) h3 h4 h5 h6
  ·exact .sliceDead (by omega) h
  ·rw[h2]at h;cases h;have h7:=V.slice (ρ:=ρ') (N:=N') (e:=e) (n:=n) (a:=a) (cap:=cap) (Nat.lt_of_lt_of_le h1 hN) h' h3 h4 h5 (fun hf=>h6 (ho hf));exact h7
 |agg h1 _ ih=>exact .agg h1 ih
 |tuple h1 _ ih=>exact .tuple h1 ih
 |func h1 _ h2 _ ih1 ih2=>exact .func h1 ih1 h2 ih2
theorem V.refl1{ρ:Map}{N:Nat}{v:Value}(h:atom1 v=true):V ρ N v v:=by
 unfold atom1 at h;split at h
 ·exact .bool
 ·exact .int
 ·exact .str
 ·exact .nilIface
 ·exact .func rfl (fun i x y hx _=>by simp at hx) rfl (fun i x y hx _=>by simp at hx)
 ·cases h
theorem V.atom1_eq{ρ:Map}{N:Nat}{x c:Value}(h:V ρ N x c)(ha:atom1 x=true):c=x:=by
 unfold atom1 at ha;split at ha
 ·cases h;rfl
 ·cases h;rfl
 ·cases h;rfl
 ·cases h;rfl
 ·cases h with
  |@func _ _ ys _ vs h1 _ h2 _=>
   have e1:ys= #[]:=Array.eq_empty_of_size_eq_zero h1.symm;have e2:vs= #[]:=Array.eq_empty_of_size_eq_zero h2.symm;rw[e1,e2]
 ·cases ha
theorem V.atom{ρ:Map}{N:Nat}{v:Value}(h:atom v=true):V ρ N v v:=by
 cases v with
 |bool b=>exact .bool
 |int k n=>exact .int
 |string s=>exact .str
 |pointer p=>cases p with
  |none=>exact .ptrNil
  |some a=>simp[Ev.atom]at h
 |slice a n c=>cases a with
  |none=>
   match n,c,h with
   |0,0,_=>exact .sliceNil
  |some a=>simp[Ev.atom]at h
 |nilFunc=>exact .nilFunc
 |nilIface=>exact .nilIface
 |agg cs=>
  refine .agg rfl fun i x y hx hy=>?_;rw[hx]at hy;cases hy;simp only[Ev.atom,List.all_eq_true]at h;have hm:x∈cs.toList:=by
   rw[A1]at hx;obtain⟨hi,rfl⟩:=hx;simp
  have hx2:=h x hm;cases x with
  |bool b=>exact .bool
  |int k n=>exact .int
  |string s=>exact .str
  |pointer p=>cases p with
   |none=>exact .ptrNil
   |some a=>simp at hx2
  |slice a n c=>cases a with
   |none=>
    match n,c,hx2 with
    |0,0,_=>exact .sliceNil
   |some a=>simp at hx2
  |nilFunc=>exact .nilFunc
  |nilIface=>exact .nilIface
  |_=>simp at hx2
 |tuple vs=>
  obtain⟨l⟩:=vs;cases l with
  |nil=>exact .tuple rfl fun i x y hx _=>by simp at hx
  |cons a l=>simp[Ev.atom]at h
 |_=>simp[Ev.atom]at h
mutual
inductive Rds(ok:Nat->Prop)(w:World):List CK->Row->Nat->Nat->Prop
 |mk{ks:List CK}{r:Row}{b off:Nat}(v:Nat->Nat->Value)(h1:∀e j k,e<r.n->ks[j]? =some k->w.cell? ⟨b,off+e*ks.length+j,none⟩=some (v e j))
   (h2:∀e j k,e<r.n->ks[j]? =some k->CellR ok w k r e j (v e j)):Rds ok w ks r b off
inductive CellR(ok:Nat->Prop)(w:World):CK->Row->Nat->Nat->Value->Prop
 |int{k:IntKind}{r:Row}{e j:Nat}:CellR ok w (.int k) r e j (.int k (r.I e j))
 |bool{r:Row}{e j:Nat}:CellR ok w .bool r e j (.bool (r.B e j))
 |str{r:Row}{e j:Nat}:CellR ok w .str r e j (.string (r.S e j))
 |slice0{sub:List CK}{r:Row}{e j:Nat}{a:Option Addr}{cap:Nat}:(r.R e j).n=0->CellR ok w (.slice sub) r e j (.slice a 0 cap)
 |slice{sub:List CK}{r:Row}{e j b off n cap:Nat}:(r.R e j).n=n->n<=cap->ok b->Rds ok w sub (r.R e j) b off->CellR ok w (.slice sub) r e j (.slice (some ⟨b,off,none⟩) n cap)
end
theorem CellR.mono{ok ok':Nat->Prop}{w w':World}(hok:∀b,ok b->ok' b∧w'.heap[b]? =w.heap[b]?){k:CK}{r:Row}{e j:Nat}{v:Value}(h:CellR ok w k r e j v):CellR ok' w' k r e j v:=by
 refine CellR.rec (ok:=ok) (w:=w) (motive_1:=fun ks r b off _=>w'.heap[b]? =w.heap[b]? ->Rds ok' w' ks r b off) (motive_2:=fun k r e j v _=>CellR ok' w' k r e j v) ?_ ?_ ?_ ?_ ?_ ?_ h
 ·intro ks r b off v h1 _ ih hb;exact .mk v (fun e j k he hk=>(World.cell?_of_block (a:=⟨b,off+e*ks.length+j,none⟩) hb).trans (h1 e j k he hk)) ih
 ·intro k r e j;exact .int
 ·intro r e j;exact .bool
 ·intro r e j;exact .str
 ·intro sub r e j a cap h1;exact .slice0 h1
 ·intro sub r e j b off n cap h1 h2 h3 _ ih;exact .slice h1 h2 (hok b h3).1 (ih (hok b h3).2)
theorem Rds.mono{ok ok':Nat->Prop}{w w':World}(hok:∀b,ok b->ok' b∧w'.heap[b]? =w.heap[b]?){ks:List CK}{r:Row}{b off:Nat}(hb:w'.heap[b]? =w.heap[b]?)(h:Rds ok w ks r b off):Rds ok' w' ks r b off:=by
 cases h with
 |mk v h1 h2=>exact .mk v (fun e j k he hk=>(World.cell?_of_block (a:=⟨b,off+e*ks.length+j,none⟩) hb).trans (h1 e j k he hk)) fun e j k he hk=>(h2 e j k he hk).mono hok
def Blk.own:Blk->Bool
 |.box _=>true
 |.row _ o _=>o
 |.deep _ _ _=>true
 |.bor _ _ _ _ _=>false
 |.map _ _ _=>true
def Owned(mem:List (Option Blk))(ρ:Map)(id b:Nat):Prop:=∃L blk,ρ id=some L∧mem[id]? =some (some blk)∧blk.own=true∧L.foot b
def okB(mem:List (Option Blk))(ρ:Map)(w:World)(b:Nat):Prop:=b<w.heap.size∧∀id,¬Owned mem ρ id b
def SubR(B:Nat)(w:World)(ks:List CK)(r:Row)(ob:Option Nat)(v:Value):Prop:=∃a cap,v=.slice a r.n cap∧r.n<=cap∧((cap=0∧ob=none)∨∃b off c T,ob=some b∧a=some ⟨b,off,none⟩∧B<=b∧w.heap[b]? =some (.cells c T (0,0))∧off+cap*ks.length<=c.size∧Rds (fun _=>False) w ks r b off)
def DCell(B:Nat)(w:World)(k:CK)(r:Row)(e j:Nat)(hole:Bool)(ob:Option Nat)(v:Value):Prop:=
 match k with
 |.slice sub=>flat sub=true∧v.oneCell'=true∧(hole=false->SubR B w sub (r.R e j) ob v)
 |k=>CellR (fun _=>False) w k r e j v
def isHole(h:Option (Nat×Nat))(e j:Nat):Bool:=match h with
 |some (e',j')=>Nat.beq e e'&&Nat.beq j j'
 |none=>false
def mget(z:Value):List MapEntry->ByteArray->Value
 |[],_=>z
 |x::xs,s=>match x.key with
  |.string t=>if t=s then x.val else mget z xs s
  |_=>z
def mapV(k:CK)(I:ByteArray->Int)(Bo:ByteArray->Bool):Option (Value×(ByteArray->Value)):=match k with
 |.int kd=>some (.int kd 0,fun s=>.int kd (I s))
 |.bool=>some (.bool false,fun s=>.bool (Bo s))
 |_=>none
def MapOk(k:CK)(I:ByteArray->Int)(Bo:ByteArray->Bool)(es:List MapEntry):Prop:=∃z f,mapV k I Bo=some (z,f)∧(∀x∈es,∃s,x.key=.string s)∧∀s,mget z es s=f s
def BlkR(mem:List (Option Blk))(ρ:Map)(w:World)(B:Nat)(L:Loc):Blk->Prop
 |.box cells=>B<=L.b∧L.off=0∧L.n=1∧0<L.tot∧∃(c:Array Value)(T:TypeId),w.heap[L.b]? =some (.cells c T (0,0))∧c.size=cells.length∧
   (∀(j:Nat)(x y:Value),cells[j]? =some x->c[j]? =some y->V ρ mem.length x y)∧L.sub=s0
 |.row ks own r=>L.n=r.n∧L.sz=ks.length∧(own=true->L.own=true∧r.n<=L.tot∧(0<L.tot->B<=L.b∧∃(c:Array Value)(T:TypeId),w.heap[L.b]? =some (.cells c T (0,0))∧L.off+L.tot*L.sz<=c.size))∧
   (0<r.n->(own=false->okB mem ρ w L.b)∧Rds (okB mem ρ w) w ks r L.b L.off)∧L.sub=s0
 |.deep ks r h=>L.n=r.n∧L.sz=ks.length∧L.own=true∧r.n<=L.tot∧(0<L.tot->B<=L.b∧∃(c:Array Value)(T:TypeId),w.heap[L.b]? =some (.cells c T (0,0))∧L.off+L.tot*L.sz<=c.size)∧
   (∀e j k,e<r.n->ks[j]? =some k->∃v,w.cell? ⟨L.b,L.off+e*ks.length+j,none⟩=some v∧DCell B w k r e j (isHole h e j) (L.sub e j) v)∧
   (∀e j b,L.sub e j=some b->e<r.n∧(∃sub,ks[j]? =some (.slice sub))∧isHole h e j=false∧b≠L.b)∧
   (manyS ks=false->∀e j e' j' b,L.sub e j=some b->L.sub e' j'=some b->e=e'∧j=j')
 |.bor p e j ks r=>flat ks=true∧L.n=r.n∧L.sz=ks.length∧L.own=true∧L.sub=s0∧∃Lp kps rp h a,mem[p]? =some (some (.deep kps rp h))∧ρ p=some Lp∧e<rp.n∧kps[j]? =some (.slice ks)∧isHole h e j=false∧rp.R e j=r∧0<Lp.tot∧
   w.cell? ⟨Lp.b,Lp.off+e*kps.length+j,none⟩=some (.slice a r.n L.tot)∧(L.tot=0∨a=some ⟨L.b,L.off,none⟩)
 |.map k I Bo=>B<=L.b∧0<L.tot∧L.sub=s0∧∃(es:Array MapEntry)(clock:Nat),w.heap[L.b]? =some (.map es clock)∧MapOk k I Bo es.toList
structure MemR(mem:List (Option Blk))(ρ:Map)(B:Nat)(w:World):Prop where
 blk:∀(id:Nat)(b:Blk),mem[id]? =some (some b)->∃L,ρ id=some L∧BlkR mem ρ w B L b
 dead:∀(id:Nat),(∀(b:Blk),mem[id]? ≠some (some b))->ρ id=none
 inj:∀(i j b:Nat),Owned mem ρ i b->Owned mem ρ j b->i=j
def TmpR(ρ:Map)(N:Nat)(τ:List Value)(ts:Array Value):Prop:=τ.length=ts.size∧∀(t:Nat)(x y:Value),τ[t]? =some x->ts[t]? =some y->V ρ N x y
def TmpsR(ρ:Map)(N:Nat):List (List Value)->List (Array Value)->Prop
 |[],[]=>True
 |τ::τs,t::ts=>TmpR ρ N τ t∧TmpsR ρ N τs ts
 |_,_=>False
structure Rel(w0:World)(σ:St)(a:Act)(cs:List (Array Value))(w:World)(ρ:Map):Prop where
 defers:a.defers=[]
 tmps:TmpR ρ σ.mem.length σ.τ a.tmps
 saved:TmpsR ρ σ.mem.length σ.saved cs
 below:Below w0.heap.size w0 w
 mem:MemR σ.mem ρ w0.heap.size w
theorem TmpR.mono{ρ ρ':Map}{N N':Nat}(hN:N<=N')(hρ:∀id,id<N->Less ρ ρ' id){τ:List Value}{ts:Array Value}(h:TmpR ρ N τ ts):TmpR ρ' N' τ ts:=
 ⟨h.1,fun t x y hx hy=>(h.2 t x y hx hy).mono hN hρ⟩
theorem TmpsR.mono{ρ ρ':Map}{N N':Nat}(hN:N<=N')(hρ:∀id,id<N->Less ρ ρ' id):∀{τs:List (List Value)}{ts:List (Array Value)},TmpsR ρ N τs ts->TmpsR ρ' N' τs ts
 |[],[],_=>trivial
 |_::_,_::_,h=>⟨h.1.mono hN hρ,TmpsR.mono hN hρ h.2⟩
theorem TmpR.getD{ρ:Map}{N:Nat}{τ:List Value}{ts:Array Value}(h:TmpR ρ N τ ts)(t:Nat):V ρ N (τ.getD t unk) (ts.getD t undef):=by
 rw[List.getD_eq_getElem?_getD,Array.getD_eq_getD_getElem?];by_cases ht:t<τ.length
 ·have ht':t<ts.size:=by have:=h.1;omega
  have h1:τ[t]? =some τ[t]:=AK ht;have h2:ts[t]? =some ts[t]:=AJ ht';rw[h1,h2];exact h.2 t _ _ h1 h2
 ·rw[List.getElem?_eq_none (by omega)];exact .unk
theorem TmpR.env{ρ:Map}{N:Nat}{τ:List Value}{a:Act}(h:TmpR ρ N τ a.tmps)(x:Operand):V ρ N (env τ x) (a.eval x):=by
 cases x with
 |tmp t=>show V ρ N (getF τ t) _;rw[getF_eq];exact h.getD t
 |const v=>
  show V ρ N (match atom v with|true=>v|false=>Ev.unk) v
  cases hv:atom v
  ·exact .unk
  ·exact V.atom hv
 |global g=>exact .unk
 |func f=>exact .func rfl (fun i x y hx _=>by simp at hx) rfl (fun i x y hx _=>by simp at hx)
theorem TmpR.set{ρ:Map}{N:Nat}{τ:List Value}{ts:Array Value}(h:TmpR ρ N τ ts)(t:Nat){x y:Value}(hxy:V ρ N x y):TmpR ρ N (τ.set t x) (ts.setIfInBounds t y):=by
 refine⟨by simpa using h.1,fun u p q hp hq=>?_⟩;rw[List.getElem?_set]at hp;rw[Array.getElem?_setIfInBounds]at hq;by_cases htu:t=u
 ·subst htu;simp only[if_true]at hp hq;split at hp
  ·split at hq
   ·cases hp;cases hq;exact hxy
   ·cases hq
  ·cases hp
 ·simp only[htu,if_false]at hp hq;exact h.2 u p q hp hq
theorem Rel.put{w0:World}{σ:St}{a:Act}{cs:List (Array Value)}{w:World}{ρ:Map}(h:Rel w0 σ a cs w ρ)(d:Option Tmp){x y:Value}(hxy:V ρ σ.mem.length x y):Rel w0 (σ.put d x) (a.put d y) cs w ρ:=by
 cases d with
 |none=>exact h
 |some t=>exact⟨h.defers,h.tmps.set t hxy,h.saved,h.below,h.mem⟩
theorem SubR.mono{B:Nat}{w w':World}{ks:List CK}{r:Row}{ob:Option Nat}{v:Value}(hsame:∀b,ob=some b->w'.heap[b]? =w.heap[b]?)(h:SubR B w ks r ob v):SubR B w' ks r ob v:=by
 obtain⟨a,cap,h1,h2,h3⟩:=h;refine⟨a,cap,h1,h2,?_⟩;rcases h3 with h3|⟨b,off,c,T,g1,g2,g3,g4,g5,g6⟩
 ·exact .inl h3
 ·have hb:=hsame b g1;exact .inr ⟨b,off,c,T,g1,g2,g3,hb.trans g4,g5,g6.mono (fun _ hf=>hf.elim) hb⟩
theorem DCell.mono{B:Nat}{w w':World}{k:CK}{r:Row}{e j:Nat}{hole:Bool}{ob:Option Nat}{v:Value}(hsame:∀b,ob=some b->w'.heap[b]? =w.heap[b]?)(h:DCell B w k r e j hole ob v):DCell B w' k r e j hole ob v:=by
 cases k with
 |slice sub=>exact⟨h.1,h.2.1,fun hh=>(h.2.2 hh).mono hsame⟩
 |int k=>exact CellR.mono (ok:=fun _=>False) (fun _ hf=>hf.elim) h
 |bool=>exact CellR.mono (ok:=fun _=>False) (fun _ hf=>hf.elim) h
 |str=>exact CellR.mono (ok:=fun _=>False) (fun _ hf=>hf.elim) h
 |other=>exact CellR.mono (ok:=fun _=>False) (fun _ hf=>hf.elim) h
theorem BlkR.shape{mem:List (Option Blk)}{ρ:Map}{w:World}{B:Nat}{L:Loc}{b:Blk}{ks:List CK}{r:Row}(hr:BlkR mem ρ w B L b)(ho:rowOf b=some (ks,r)):L.n=r.n∧L.sz=ks.length:=by
 cases b with
 |box cells=>cases ho
 |row ks' o r'=>cases ho;exact⟨hr.1,hr.2.1⟩
 |deep ks' r' h=>cases ho;exact⟨hr.1,hr.2.1⟩
 |bor p e j ks' r'=>cases ho;exact⟨hr.2.1,hr.2.2.1⟩
 |map _ _ _=>cases ho
theorem BlkR.deep_same{mem mem':List (Option Blk)}{ρ ρ':Map}{w w':World}{B:Nat}{L:Loc}{ks:List CK}{r:Row}{h:Option (Nat×Nat)}(hsame:∀b,L.foot b->w'.heap[b]? =w.heap[b]?)(hr:BlkR mem ρ w B L (.deep ks r h)):BlkR mem' ρ' w' B L (.deep ks r h):=by
 obtain⟨h1,h2,h3,h4,h5,h6,h7,h8⟩:=hr;refine⟨h1,h2,h3,h4,fun ht=>?_,fun e j k he hk=>?_,h7,h8⟩
 ·obtain⟨g1,c,T,g2,g3⟩:=h5 ht;exact⟨g1,c,T,(hsame _ (.inl ⟨ht,rfl⟩)).trans g2,g3⟩
 ·obtain⟨v,g1,g2⟩:=h6 e j k he hk;exact⟨v,(World.cell?_of_block (a:=⟨L.b,L.off+e*ks.length+j,none⟩) (hsame _ (.inl ⟨by omega,rfl⟩))).trans g1,g2.mono fun b hb=>hsame b (.inr ⟨e,j,hb⟩)⟩
theorem BlkR.deep_lt{mem:List (Option Blk)}{ρ:Map}{w:World}{B:Nat}{L:Loc}{ks:List CK}{r:Row}{h:Option (Nat×Nat)}(hr:BlkR mem ρ w B L (.deep ks r h)){b:Nat}(hb:L.foot b):b<w.heap.size∧B<=b:=by
 obtain⟨h1,h2,h3,h4,h5,h6,h7,h8⟩:=hr;rcases hb with⟨ht,rfl⟩|⟨e,j,hb⟩
 ·obtain⟨g1,c,T,g2,_⟩:=h5 ht;exact⟨(A1.1 g2).1,g1⟩
 ·obtain⟨he,⟨sub,hk⟩,hh,_⟩:=h7 e j b hb;obtain⟨v,_,g2⟩:=h6 e j _ he hk;obtain⟨a,cap,_,_,h3⟩:=g2.2.2 hh;rcases h3 with⟨_,h3⟩|⟨b',off,c,T,g3,g4,g5,g6,_⟩
  ·rw[hb]at h3;cases h3
  ·rw[hb]at g3;cases g3;exact⟨(A1.1 g6).1,g5⟩
def Upb(mem:List (Option Blk))(ρ:Map)(w:World)(mem':List (Option Blk))(ρ':Map)(w':World)(blk:Blk):Prop:=∀p e j ks r,blk=.bor p e j ks r->∀kps rp hh Lp,mem[p]? =some (some (.deep kps rp hh))->ρ p=some Lp->mem'[p]? =some (some (.deep kps rp hh))∧ρ' p=some Lp∧(0<Lp.tot->w'.heap[Lp.b]? =w.heap[Lp.b]?)
theorem BlkR.bor_same{mem mem':List (Option Blk)}{ρ ρ':Map}{w w':World}{B:Nat}{L:Loc}{p e j:Nat}{ks:List CK}{r:Row}(hup:Upb mem ρ w mem' ρ' w' (.bor p e j ks r))(hr:BlkR mem ρ w B L (.bor p e j ks r)):BlkR mem' ρ' w' B L (.bor p e j ks r):=by
 obtain⟨h1,h2,h3,h4,h5,Lp,kps,rp,h,a,g1,g2,g3,g4,g5,g6,g0,g7,g8⟩:=hr;obtain⟨u1,u2,u3⟩:=hup p e j ks r rfl kps rp h Lp g1 g2;exact⟨h1,h2,h3,h4,h5,Lp,kps,rp,h,a,u1,u2,g3,g4,g5,g6,g0,(World.cell?_of_block (a:=⟨Lp.b,Lp.off+e*kps.length+j,none⟩) (u3 g0)).trans g7,g8⟩
theorem MemR.later{mem:List (Option Blk)}{ρ:Map}{B:Nat}{w w':World}(h:MemR mem ρ B w)(hb:Below w.heap.size w w'):MemR mem ρ B w':=by
 have hsame:∀b o,w.heap[b]? =some o->w'.heap[b]? =w.heap[b]? :=fun b o ho=>hb.block b (by rw[A1]at ho;exact ho.1);have hok:∀b,okB mem ρ w b->okB mem ρ w' b∧w'.heap[b]? =w.heap[b]? :=fun b ⟨h1,h2⟩=>⟨⟨Nat.lt_of_lt_of_le h1 hb.size,h2⟩,hb.block b h1⟩;refine⟨fun id b hid=>?_,h.dead,h.inj⟩;obtain⟨L,hL,hr⟩:=h.blk id b hid;refine⟨L,hL,?_⟩;cases b with
 |box cells=>
  obtain⟨h1,h2,h3,h4,c,T,h5,h6⟩:=hr;exact⟨h1,h2,h3,h4,c,T,(hsame _ _ h5).trans h5,h6⟩
 |deep ks r hole=>exact BlkR.deep_same (fun b hf=>hb.block b (BlkR.deep_lt hr hf).1) hr
 |map k I Bo=>
  obtain⟨h1,h2,h3,es,c,h4,h5⟩:=hr;exact⟨h1,h2,h3,es,c,(hsame _ _ h4).trans h4,h5⟩
 |bor p e j ks r=>
  refine BlkR.bor_same (fun p' e' j' ks' r' _ kps rp hh Lp g1 g2=>⟨g1,g2,fun ht=>?_⟩) hr;obtain⟨M,hM,hp⟩:=h.blk p' _ g1;rw[g2]at hM;cases hM;exact hb.block _ (BlkR.deep_lt hp (.inl ⟨ht,rfl⟩)).1
 |row ks own r=>
  obtain⟨h1,h2,h3,h4,h0⟩:=hr;refine⟨h1,h2,fun ho=>⟨(h3 ho).1,(h3 ho).2.1,fun ht=>?_⟩,fun hn=>⟨fun ho=>(hok _ ((h4 hn).1 ho)).1,?_⟩,h0⟩
  ·obtain⟨h5,c,T,h6,h7⟩:=(h3 ho).2.2 ht;exact⟨h5,c,T,(hsame _ _ h6).trans h6,h7⟩
  ·have h5:=(h4 hn).2;refine h5.mono hok ?_;cases own with
   |false=>exact(hok _ ((h4 hn).1 rfl)).2
   |true=>
    obtain⟨_,c,T,h6,_⟩:=(h3 rfl).2.2 (by have:=(h3 rfl).2.1;omega);exact hsame _ _ h6
theorem Rel.later{w0:World}{σ:St}{a:Act}{cs:List (Array Value)}{w w':World}{ρ:Map}(h:Rel w0 σ a cs w ρ)(hb:Below w.heap.size w w'):Rel w0 σ a cs w' ρ:=
 ⟨h.defers,h.tmps,h.saved,h.below.trans (hb.mono h.below.size),h.mem.later hb⟩
end Go.Ev

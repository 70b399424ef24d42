/- A part of the proof of PrintTexts. No conditions. -/
import Derived.Below
import Derived.Deep.Quiet
import Derived.StillTail
import Derived.Laws.Tables
import Derived.Laws.Cells
import Derived.Laws.Entries
import Derived.Laws.Slices
import Derived.Laws.StructEq
set_option linter.all false
namespace Go
universe u
def o_{p:Prop}(h:p:=by omega):p:=h
def d_{p:Prop}(h:p:=by decide):p:=h
def y_{p:Prop}(h:p:=by simp):p:=h
def z_{p:Prop}(h:p:=by simp;omega):p:=h
abbrev Y_:=ByteArray
def AX{α:Type u}{Q:α->Prop}:∀p,p∈([]:List α)->Q p:=fun _ h=>by cases h
def Aw{α:Type u}{Q:α->Prop}{a:α}{l:List α}(h:Q a)(t:∀p,p∈l->Q p):∀p,p∈a::l->Q p:=fun p hp=>(List.mem_cons.1 hp).elim (fun e=>e▸h) (t p)
end Go
namespace Go.Ev
def A0{α:Type _}{l:List α}{i:Nat}{a:α}:l[i]? =some a↔∃h:i<l.length,l[i]=a:=List.getElem?_eq_some_iff
def A1{α:Type _}{xs:Array α}{i:Nat}{a:α}:xs[i]? =some a↔∃h:i<xs.size,xs[i]=a:=Array.getElem?_eq_some_iff
def A2(a b:Bool):((a&&b)=true)=(a=true∧b=true):=Bool.and_eq_true a b
def A3{p:Prop}[Decidable p]:(decide p=true)=p:=decide_eq_true_eq
def A4{p:Prop}[Decidable p]:p->decide p=true:=decide_eq_true
def A5{α:Type _}(a b:α):(some a=some b)=(a=b):=Option.some.injEq a b
def A6{α β:Type _}(a:α)(b:β)(c:α)(d:β):((a,b)=(c,d))=(a=c∧b=d):=Prod.mk.injEq a b c d
def A7{α:Type _}{a:α}:¬a∈([]:List α):=List.not_mem_nil
def A8{α:Type _}{b:α}{l:List α}{a:α}:a∈b::l↔a=b∨a∈l:=List.mem_cons
def A9(n:Nat):(n:Int).toNat=n:=Int.toNat_natCast n
def AB{p:Prop}[Decidable p]:¬p->decide p=false:=decide_eq_false
def AC(n:Nat):n<=n:=Nat.le_refl n
def AD{p:Prop}[Decidable p]:decide p=true->p:=of_decide_eq_true
def AE(n:Nat):0+n=n:=Nat.zero_add n
def AF{n m:Nat}:Nat.beq n m=true->n=m:=Nat.eq_of_beq_eq_true
def AG{α:Type _}{as bs:List α}:(as++bs).length=as.length+bs.length:=List.length_append
def AH{m n:Nat}(k:Nat):m<=n->m*k<=n*k:=Nat.mul_le_mul_right k
def AI{x y:Bool}:(x||y)=false↔x=false∧y=false:=Bool.or_eq_false_iff
def AJ{α:Type _}{xs:Array α}{i:Nat}(h:i<xs.size):xs[i]? =some xs[i]:=Array.getElem?_eq_getElem h
def AK{α:Type _}{l:List α}{i:Nat}(h:i<l.length):l[i]? =some l[i]:=List.getElem?_eq_getElem h
def AL{c:Prop}{h:Decidable c}(hn:¬c){α:Sort _}{t e:α}:ite c t e=e:=if_neg hn
def AM{c:Prop}{h:Decidable c}(hn:c){α:Sort _}{t e:α}:ite c t e=t:=if_pos hn
def AO{p:Prop}[Decidable p]:decide p=false->¬p:=of_decide_eq_false
def AQ{α:Type _}{as bs:List α}{i:Nat}(h:i<as.length):(as++bs)[i]? =as[i]?:=List.getElem?_append_left h
inductive CK where
 |int(k:IntKind)
 |bool
 |str
 |slice(sub:List CK)
 |other
inductive Row where
 |nil
 |mk(n:Nat)(I:Nat->Nat->Int)(B:Nat->Nat->Bool)(S:Nat->Nat->Y_)(R:Nat->Nat->Row)
def Row.n:Row->Nat|.nil=>0|.mk n _ _ _ _=>n
def Row.I:Row->Nat->Nat->Int|.nil=>fun _ _=>0|.mk _ I _ _ _=>I
def Row.B:Row->Nat->Nat->Bool|.nil=>fun _ _=>false|.mk _ _ B _ _=>B
def Row.S:Row->Nat->Nat->Y_|.nil=>fun _ _=>.empty|.mk _ _ _ S _=>S
def Row.R:Row->Nat->Nat->Row|.nil=>fun _ _=>.nil|.mk _ _ _ _ R=>R
def Row.setI(r:Row)(e j:Nat)(x:Int):Row:=.mk r.n (fun e' j'=>bif Nat.beq e' e&&Nat.beq j' j then x else r.I e' j') r.B r.S r.R
def Row.setB(r:Row)(e j:Nat)(x:Bool):Row:=.mk r.n r.I (fun e' j'=>bif Nat.beq e' e&&Nat.beq j' j then x else r.B e' j') r.S r.R
def Row.setS(r:Row)(e j:Nat)(x:Y_):Row:=.mk r.n r.I r.B (fun e' j'=>bif Nat.beq e' e&&Nat.beq j' j then x else r.S e' j') r.R
def Row.setR(r:Row)(e j:Nat)(x:Row):Row:=.mk r.n r.I r.B r.S (fun e' j'=>bif Nat.beq e' e&&Nat.beq j' j then x else r.R e' j')
def Row.win(r:Row)(e m:Nat):Row:=.mk m (fun x=>r.I (e+x)) (fun x=>r.B (e+x)) (fun x=>r.S (e+x)) (fun x=>r.R (e+x))
def Row.app(r s:Row):Row:=.mk (r.n+s.n) (fun e j=>bif Nat.blt e r.n then r.I e j else s.I (e-r.n) j) (fun e j=>bif Nat.blt e r.n then r.B e j else s.B (e-r.n) j) (fun e j=>bif Nat.blt e r.n then r.S e j else s.S (e-r.n) j) (fun e j=>bif Nat.blt e r.n then r.R e j else s.R (e-r.n) j)
def Row.zeros(n:Nat):Row:=.mk n (fun _ _=>0) (fun _ _=>false) (fun _ _=>.empty) (fun _ _=>.nil)
inductive Blk where
 |box(cells:List Value)
 |row(ks:List CK)(own:Bool)(r:Row)
 |deep(ks:List CK)(r:Row)(hole:Option (Nat×Nat))
 |bor(p e j:Nat)(ks:List CK)(r:Row)
 |map(k:CK)(I:Y_->Int)(B:Y_->Bool)
abbrev M_:=List (Option Blk)
def rowOf:Blk->Option (List CK×Row)
 |.row ks _ r=>some (ks,r)
 |.deep ks r _=>some (ks,r)
 |.bor _ _ _ ks r=>some (ks,r)
 |.box _=>none
 |.map _ _ _=>none
def Yk:Blk->Option (List CK×Row)
 |.row ks _ r=>some (ks,r)
 |.deep ks r none=>some (ks,r)
 |.bor _ _ _ ks r=>some (ks,r)
 |_=>none
structure St where
 τ:List Value
 saved:List (List Value)
 mem:M_
abbrev unk:Value:=.chan none
abbrev rX(b:Bool):Value:=.iface 0 (.bool b)
def atom:Value->Bool
 |.bool _|.int _ _|.string _|.pointer none|.nilFunc|.nilIface|.slice none 0 0=>true
 |.agg cs=>cs.toList.all fun|.bool _|.int _ _|.string _|.pointer none|.nilFunc|.nilIface|.slice none 0 0=>true|_=>false
 |.tuple ⟨[]⟩=>true
 |_=>false
noncomputable def Xb(l:List Value):Nat->Value:=@List.rec Value (fun _=>Nat->Value) (fun _=>unk) (fun x _ ih t=>@Nat.rec (fun _=>Value) x (fun t' _=>ih t') t) l
def Jj:∀(l:List Value)(t:Nat),Xb l t=l.getD t unk
 |[],_=>rfl
 |_::_,0=>rfl
 |_::xs,t+1=>(Jj xs t:_)
noncomputable def Aps{β:Type}(v:Value)(l:List Value):Nat->(List Value->β)->β:=@List.rec Value (fun _=>Nat->(List Value->β)->β) (fun _ k=>k []) (fun x xs ih t=>@Nat.rec (fun _=>(List Value->β)->β) (fun k=>k (v::xs)) (fun t' _ k=>ih t' fun ys=>k (x::ys)) t) l
def Yy{β:Type}(v:Value):∀(l:List Value)(t:Nat)(k:List Value->β),Aps v l t k=k (l.set t v)
 |[],_,_=>rfl
 |_::_,0,_=>rfl
 |x::xs,t+1,k=>(Yy v xs t fun ys=>k (x::ys):_)
noncomputable def env(τ:List Value):Operand->Value
 |.tmp t=>Xb τ t
 |.const v=>match atom v with|true=>v|false=>unk
 |.global _=>unk
 |.func f=>.func (.func f) #[] #[]
def St.put(σ:St)(d:Option Tmp)(v:Value):St:=
 match d with
 |some t=>{σ with τ:=σ.τ.set t v}
 |none=>σ
noncomputable def St.putK{β:Type}(σ:St)(d:Option Tmp)(v:Value)(k:St->β):β:=
 match d with
 |some t=>Aps v σ.τ t fun τ=>k {τ,saved:=σ.saved,mem:=σ.mem}
 |none=>k σ
def NW{β:Type}(σ:St)(d:Option Tmp)(v:Value)(k:St->β):σ.putK d v k=k (σ.put d v):=by
 unfold St.putK St.put;split
 ·rw[Yy]
 ·rfl
section
variable{α:Type}
def br(b:Bool)(x y:Option α):Option α:=match b with|true=>x|false=>y
def XJ(n:Int)(f:Nat->Option α):Nat->Nat->Option α
 |0,_=>none
 |m+1,i=>br (decide (n=(i:Int))) (f i) (XJ n f m (i+1))
def PO{n:Int}{f:Nat->Option α}{r:α}:∀{m i:Nat},XJ n f m i=some r->∃j:Nat,n=(j:Int)∧f j=some r
 |0,_,h=>by cases h
 |m+1,i,h=>by
  unfold XJ br at h;split at h
  ·rename_i hd;exact⟨i,AD hd,h⟩
  ·exact PO h
def Bc:Value->List Value
 |.agg cs=>cs.toList
 |v=>[v]
def bytesRow(s:Y_):Row:=.mk s.size (fun e _=>((s.data.getD e 0).toNat:Int)) (fun _ _=>false) (fun _ _=>.empty) (fun _ _=>.nil)
def isBytes(P:Program):Op->Bool
 |.convert src dst _=>match P.underlying src,P.underlying dst with
  |some .string,some (.slice _)=>true
  |_,_=>false
 |_=>false
def Iz:Value->Bool
 |.chan _=>true
 |_=>false
def Qu(P:Program)(t:TypeId):Option Bool:=
 match P.underlying t with
 |some (.struct _)|some (.array _ _)=>some true
 |some _=>some false
 |none=>none
def MM(P:Program)(t:TypeId)(cs:List Value)(off:Nat):Option Value:=
 match P.info? t,Qu P t with
 |some i,some true=>some (.agg ⟨(cs.drop off).take i.size⟩)
 |some _,some false=>cs[off]?
 |_,_=>none
def Zh(P:Program):Nat->TypeId->Value->Value->Option Bool
 |0,_,_,_=>none
 |d+1,t,x,y=>
  match P.underlying t,x,y with
  |some .bool,.bool a,.bool b=>some (a==b)
  |some (.int _),.int k a,.int k' b=>if k=k' then some (a==b)else none
  |some .string,.string a,.string b=>some (a==b)
  |some (.struct fields),.agg xs,.agg ys=>
   if P.stoodInHeld t then none else
   fields.toList.foldr (fun f acc=>if f.name= "_" then none else
    match MM P f.type xs.toList f.offset,MM P f.type ys.toList f.offset with
    |some a,some b=>match Zh P d f.type a b,acc with
     |some p,some q=>some (p&&q)
     |_,_=>none
    |_,_=>none) (some true)
  |some (.array len elem),.agg xs,.agg ys=>
   match P.info? elem with
   |some i=>(List.range len).foldr (fun n acc=>
    match MM P elem xs.toList (n*i.size),MM P elem ys.toList (n*i.size)with
    |some a,some b=>match Zh P d elem a b,acc with
     |some p,some q=>some (p&&q)
     |_,_=>none
    |_,_=>none) (some true)
   |none=>none
  |_,_,_=>none
def Ae8(op:BinOp)(k:IntKind)(x y:Int):Option Int:=
 let a:=BitVec.ofInt k.bits x
 let b:=BitVec.ofInt k.bits y
 match op with
 |.and=>some (k.wrap (a&&&b).toNat)
 |.or=>some (k.wrap (a|||b).toNat)
 |.xor=>some (k.wrap (a^^^b).toNat)
 |.andNot=>some (k.wrap (a&&& ~~~b).toNat)
 |_=>none
def Aiz(P:Program)(op:BinOp)(t:TypeId)(x y:Value)(k:Value->Option α):Option α:=
 match x,y with
 |.int kd a,.int kd' b=>
  match op with
  |.shl=>br (decide (b<0)) none (k (.int kd (kd.wrap (a*2^(min b.toNat kd.bits)))))
  |.shr=>br (decide (b<0)) none (k (.int kd (a.fdiv (2^(min b.toNat kd.bits)))))
  |_=>
  if kd≠kd' then none else
  match op with
  |.add=>k (.int kd (kd.wrap (a+b)))
  |.sub=>k (.int kd (kd.wrap (a-b)))
  |.mul=>k (.int kd (kd.wrap (a*b)))
  |.quo=>br (decide (b=0)) none (k (.int kd (kd.wrap (a.tdiv b))))
  |.rem=>br (decide (b=0)) none (k (.int kd (a.tmod b)))
  |.eql=>k (.bool (a==b))
  |.neq=>k (.bool (a !=b))
  |.lss=>k (.bool (decide (a<b)))
  |.leq=>k (.bool (decide (a<=b)))
  |.gtr=>k (.bool (decide (a>b)))
  |.geq=>k (.bool (decide (a>=b)))
  |op=>match Ae8 op kd a b with|some r=>k (.int kd r)|none=>none
 |.string a,.string b=>
  match op with
  |.add=>br (decide (((a.size+b.size:Nat):Int)>IntKind.i64.max)) none (k (.string (a++b)))
  |.eql=>k (.bool (a.toList==b.toList))
  |.neq=>k (.bool (!(a.toList==b.toList)))
  |.lss=>k (.bool (Op.bytesLess a.toList b.toList))
  |.leq=>k (.bool (Op.bytesLess a.toList b.toList||a.toList==b.toList))
  |.gtr=>k (.bool (!(Op.bytesLess a.toList b.toList||a.toList==b.toList)))
  |.geq=>k (.bool (!(Op.bytesLess a.toList b.toList)))
  |_=>none
 |x,y=>
  match op,x with
  |.eql,.bool _=>match Zh P Op.maxDepth t x y with|some b=>k (.bool b)|none=>none
  |.neq,.bool _=>match Zh P Op.maxDepth t x y with|some b=>k (.bool (!b))|none=>none
  |.eql,.agg _=>if P.eqGuardType P.depth t then none else match Zh P Op.maxDepth t x y with|some b=>k (.bool b)|none=>none
  |.neq,.agg _=>if P.eqGuardType P.depth t then none else match Zh P Op.maxDepth t x y with|some b=>k (.bool (!b))|none=>none
  |_,_=>none
def Eb(r:Row)(e:Nat):List CK->Nat->Option (List Value)
 |[],_=>some []
 |.int k::ks,j=>(Eb r e ks (j+1)).map (Value.int k (r.I e j):: ·)
 |.bool::ks,j=>(Eb r e ks (j+1)).map (Value.bool (r.B e j):: ·)
 |.str::ks,j=>(Eb r e ks (j+1)).map (Value.string (r.S e j):: ·)
 |_::_,_=>none
def Uo(P:Program)(mem:M_)(t:TypeId)(x:Value):Option Value:=
 match x,P.info? t,Qu P t with
 |.pointer (some ⟨id,e,some j⟩),some i,some ag=>
  match mem[id]? with
  |some (some (.box cells))=>
   match ag with
   |true=>if j+i.size<=cells.length then some (.agg ⟨(cells.drop j).take i.size⟩)else none
   |false=>cells[j]?
  |some (some b)=>match rowOf b with
   |some (ks,r)=>
    match ag with
    |true=>if j+i.size<=ks.length then(Eb r e ((ks.drop j).take i.size) j).map fun vs=>.agg ⟨vs⟩else none
    |false=>match Eb r e ((ks.drop j).take 1) j with|some [v]=>some v|_=>none
   |none=>none
  |_=>none
 |_,_,_=>none
def Dj(r:Row)(e:Nat):List CK->Nat->M_->Option (List Value×M_)
 |[],_,mem=>some ([],mem)
 |.int k::ks,j,mem=>match Dj r e ks (j+1) mem with|some (vs,m)=>some (.int k (r.I e j)::vs,m)|none=>none
 |.bool::ks,j,mem=>match Dj r e ks (j+1) mem with|some (vs,m)=>some (.bool (r.B e j)::vs,m)|none=>none
 |.str::ks,j,mem=>match Dj r e ks (j+1) mem with|some (vs,m)=>some (.string (r.S e j)::vs,m)|none=>none
 |.slice sub::ks,j,mem=>match Dj r e ks (j+1) (mem++[some (.row sub false (r.R e j))])with
  |some (vs,m)=>some (.slice (some ⟨mem.length,0,some 0⟩) (r.R e j).n 0::vs,m)
  |none=>none
 |.other::_,_,_=>none
def DT(p:Nat)(r:Row)(e:Nat):List CK->Nat->M_->Option (List Value×M_)
 |[],_,mem=>some ([],mem)
 |.int k::ks,j,mem=>match DT p r e ks (j+1) mem with|some (vs,m)=>some (.int k (r.I e j)::vs,m)|none=>none
 |.bool::ks,j,mem=>match DT p r e ks (j+1) mem with|some (vs,m)=>some (.bool (r.B e j)::vs,m)|none=>none
 |.str::ks,j,mem=>match DT p r e ks (j+1) mem with|some (vs,m)=>some (.string (r.S e j)::vs,m)|none=>none
 |.slice sub::ks,j,mem=>match DT p r e ks (j+1) (mem++[some (.bor p e j sub (r.R e j))])with
  |some (vs,m)=>some (.slice (some ⟨mem.length,0,some 0⟩) (r.R e j).n 0::vs,m)
  |none=>none
 |.other::_,_,_=>none
def QE:List CK->Bool
 |[]=>false
 |.slice _::_=>true
 |_::ks=>QE ks
def GV:List CK->Bool
 |[]=>false
 |.slice _::ks=>QE ks
 |_::ks=>GV ks
def XK{α:Type}(ks:List CK)(x:Option α):Option α:=match GV ks with
 |true=>none
 |false=>x
def PE{α:Type}{ks:List CK}{x:Option α}{y:α}(h:XK ks x=some y):GV ks=false∧x=some y:=by
 unfold XK at h;split at h
 ·cases h
 ·exact⟨by assumption,h⟩
def PR(r:Row)(e n:Nat):Y_:=((List.range n).map fun i=>r.I (e+i) 0).foldl (fun s x=>s.push (UInt8.ofNat x.toNat)) .empty
def viewLoad(P:Program)(mem:M_)(ρ:Operand->Value)(o:Oper):Option (Value×M_):=
 match o.op with
 |.load t a=>match ρ a,P.info? t,Qu P t with
  |.pointer (some ⟨id,e,some j⟩),some i,some ag=>match mem[id]? with
   |some (some (.row ks _ r))=>match QE ((ks.drop j).take i.size)&&Nat.ble (j+i.size) ks.length with
    |true=>match Dj r e ((ks.drop j).take i.size) j mem,ag with
     |some (vs,m),true=>some (.agg ⟨vs⟩,m)
     |some ([v],m),false=>some (v,m)
     |_,_=>none
    |false=>none
   |some (some (.deep ks r none))=>match QE ((ks.drop j).take i.size)&&Nat.ble (j+i.size) ks.length with
    |true=>match DT id r e ((ks.drop j).take i.size) j mem,ag with
     |some (vs,m),true=>some (.agg ⟨vs⟩,m)
     |some ([v],m),false=>some (v,m)
     |_,_=>none
    |false=>none
   |_=>none
  |_,_,_=>none
 |.convert src dst x=>match P.underlying src,P.underlying dst,ρ x with
  |some (.slice el),some .string,.slice (some ⟨id,e,some 0⟩) len 0=>match P.underlying el,mem[id]? with
   |some (.int .u8),some (some (.row [.int .u8] _ r))=>some (.string (PR r e len),mem)
   |_,_=>none
  |_,_,_=>none
 |.binOp op t x (.const .nilIface) _=>match P.underlying t,ρ x,op with
  |some (.interface _),.nilIface,.eql=>some (.bool true,mem)
  |some (.interface _),.nilIface,.neq=>some (.bool false,mem)
  |some (.interface _),.iface _ (.bool b),.eql=>some (.bool (!b),mem)
  |some (.interface _),.iface _ (.bool b),.neq=>some (.bool b,mem)
  |_,_,_=>none
 |_=>none
def Adh(P:Program)(src dst:TypeId)(x:Value):Option Value:=
 match P.underlying src,P.underlying dst,x with
 |some _,some (.int k),.int _ n=>some (.int k (k.wrap n))
 |some _,some .string,.string s=>some (.string s)
 |_,_,_=>none
def JP(P:Program)(mem:M_)(ρ:Operand->Value)(o:Oper)(k:Value->Option α):Option α:=
 match o.op with
 |.move x|.assign x=>k (ρ x)
 |.pick c a b=>match ρ c with|.bool c=>br c (k (ρ a)) (k (ρ b))|_=>none
 |.load t a=>match Uo P mem t (ρ a)with|some v=>k v|none=>none
 |.nilCheck x=>match ρ x with|.pointer (some p)=>k (.pointer (some p))|_=>none
 |.binOp op t x y _=>Aiz P op t (ρ x) (ρ y) k
 |.unOp op _ x=>match op,ρ x with
  |.not,.bool b=>k (.bool (!b))
  |.neg,.int kd n=>k (.int kd (kd.wrap (0-n)))
  |_,_=>none
 |.convert src dst x=>match Adh P src dst (ρ x)with|some v=>k v|none=>none
 |.fieldAddr t x i=>match P.underlying t,ρ x with
  |some (.struct fs),.pointer (some ⟨id,e,some j⟩)=>match fs[i]? with
   |some f=>match P.info? f.type with
    |some fi=>if fi.size=0 then none else k (.pointer (some ⟨id,e,some (j+f.offset)⟩))
    |none=>none
   |none=>none
  |_,_=>none
 |.field t x i=>match P.underlying t,ρ x with
  |some (.struct fs),.agg cs=>match fs[i]? with
   |some f=>match MM P f.type cs.toList f.offset with|some v=>k v|none=>none
   |none=>none
  |_,_=>none
 |.indexAddr t x i=>match P.underlying t,ρ x,ρ i with
  |some (.slice el),.slice (some ⟨id,e,some 0⟩) len _,.int _ n=>
   match P.info? el,mem[id]? with
   |some ei,some (some b)=>match rowOf b with
    |some (ks,_)=>if ei.size=ks.length then br (decide (0<=n)&&decide (n<(len:Int))) (k (.pointer (some ⟨id,e+n.toNat,some 0⟩))) none else none
    |none=>none
   |_,_=>none
  |_,_,_=>none
 |.index t x i=>match P.underlying t,ρ x,ρ i with
  |some (.array len el),.agg cs,.int _ n=>
   match P.info? el with
   |some ei=>br (decide (0<=n)&&decide (n<(len:Int))) (XJ n (fun q=>match MM P el cs.toList (q*ei.size)with|some v=>k v|none=>none) len 0) none
   |none=>none
  |some .string,.string s,.int _ n=>br (decide (0<=n)&&decide (n<(s.size:Int))) (k (.int .u8 (s.data.getD n.toNat 0).toNat)) none
  |_,_,_=>none
 |.extract x i=>match ρ x with|.tuple vs=>(match vs[i]? with|some v=>k v|none=>none)|_=>none
 |.makeFunc fn first captured=>k (.func fn (first.map ρ) (captured.map ρ))
 |.call c=>match c.callee with
  |.builtin .len=>match c.argTypes.toList,c.args.toList with
   |[t],[x]=>match P.underlying t,ρ x with
    |some (.slice _),.slice _ n _=>k (.int .i64 (n:Int))
    |some .string,.string s=>k (.int .i64 (s.size:Int))
    |some (.array n _),_=>k (.int .i64 (n:Int))
    |_,_=>none
   |_,_=>none
  |.builtin .min=>match c.args.toList.map ρ with
   |[.int kd x,.int _ y]=>k (.int kd (if y<x then y else x))
   |_=>none
  |.builtin .max=>match c.args.toList.map ρ with
   |[.int kd x,.int _ y]=>k (.int kd (if y>x then y else x))
   |_=>none
  |_=>none
 |.slice t x lo hi mx=>match P.underlying t,ρ x,mx with
  |some .string,.string s,none=>
   match(lo.map ρ).getD (.int .i64 0),(hi.map ρ).getD (.int .i64 (s.size:Int))with
   |.int _ l,.int _ h=>br (decide (0<=h)&&decide (h<=(s.size:Int))) (br (decide (0<=l)&&decide (l<=(h.toNat:Int))) (k (.string (s.extract l.toNat h.toNat))) none) none
   |_,_=>none
  |some (.slice el),.slice (some ⟨id,e,some 0⟩) len 0,none=>
   match P.info? el,mem[id]? with
   |some ei,some (some b)=>match rowOf b with
    |some (ks,_)=>if ei.size=ks.length then
     match(lo.map ρ).getD (.int .i64 0),(hi.map ρ).getD (.int .i64 (len:Int))with
     |.int _ l,.int _ h=>br (decide (0<=h)&&decide (h<=(len:Int))) (br (decide (0<=l)&&decide (l<=(h.toNat:Int))) (k (.slice (some ⟨id,e+l.toNat,some 0⟩) (h.toNat-l.toNat) 0)) none) none
     |_,_=>none
     else none
    |none=>none
   |_,_=>none
  |some (.slice el),.slice (some ⟨id,e,some 0⟩) len 0,some mx=>
   match P.info? el,mem[id]? with
   |some ei,some (some b)=>match rowOf b with
    |some (ks,_)=>if ei.size=ks.length then
     match(lo.map ρ).getD (.int .i64 0),hi.map ρ,ρ mx with
     |.int _ l,some (.int _ h),.int _ m=>br (decide (0<=m)&&decide (m<=(len:Int))) (br (decide (0<=h)&&decide (h<=m)) (br (decide (0<=l)&&decide (l<=(h.toNat:Int))) (k (.slice (some ⟨id,e+l.toNat,some 0⟩) (h.toNat-l.toNat) 0)) none) none) none
     |_,_,_=>none
     else none
    |none=>none
   |_,_=>none
  |_,_,_=>none
 |_=>none
inductive D where
 |v(x:Value)
 |slice(ks:List CK)(r:Row)
 |agg(ds:List D)
 |ptr(ks:List CK)(r:Row)
 |err(b:Bool)
abbrev FD:=List D->Option (Bool×List D)
abbrev OD:=Option (List D)
inductive X where
 |normal
 |exit(id:Nat)
 |ret
structure Cx where
 P:Program
 ok:List FuncId
 Γ:FuncId->Option (FD)
 N:Nat
 lv:FuncId->Nat->List Tmp
 lx:FuncId->Nat->Option (List Tmp)
 Λ:FuncId->Nat->Option (St->(X->St->OD)->OD)
 X:FuncId->Option (List Value->Option (Bool×List Value)):=fun _=>none
 I:FuncId->Option (List Value->St->Option (Bool×Value×St)):=fun _=>none
 no:Oper->Bool:=fun _=>false
def ask(C:Cx)(o:Oper)(v:Value)(k:Value->Option α):Option α:=match C.no o with
 |true=>(match v with|.bool b=>br b none (k (.bool false))|_=>none)
 |false=>k v
def OH{C:Cx}{o:Oper}{v:Value}{k:Value->Option α}{r:α}(h:ask C o v k=some r):k v=some r:=by
 unfold ask at h;split at h
 ·split at h
  ·rename_i b;cases b with
   |true=>cases h
   |false=>exact h
  ·cases h
 ·exact h
def w_(r:Row)(e len:Nat):Row:=
 match e with
 |0=>.mk len r.I r.B r.S r.R
 |e=>r.win e len
def Di:Value->Bool
 |.bool _|.int _ _|.string _|.nilIface|.func _ ⟨[]⟩ ⟨[]⟩=>true
 |_=>false
def flat:List CK->Bool
 |[]=>true
 |.int _::ks=>flat ks
 |.bool::ks=>flat ks
 |.str::ks=>flat ks
 |_=>false
def Y2:CK->List CK
 |.slice s=>s
 |_=>[]
def OG:CK->List CK
 |.slice s=>s
 |_=>[]
def Ic:List CK->Bool
 |[]=>true
 |.slice s::ks=>flat s&&Ic ks
 |.other::_=>false
 |_::ks=>Ic ks
def Hz(ks:List CK)(r:Row):Blk:=match flat ks with|true=>.row ks true r|false=>.deep ks r none
def CU(p:Nat)(mem:M_):M_:=mem.map fun b=>match b with
 |some (.bor q e j ks r)=>(match Nat.beq q p with|true=>none|false=>some (.bor q e j ks r))
 |b=>b
def jT(ck:CK)(mem:M_)(x:Value):Option D:=
 match x with
 |.slice none 0 0=>some (.slice (Y2 ck) .nil)
 |.slice (some ⟨id,e,some 0⟩) len 0=>match mem[id]? with
  |some (some b)=>match Yk b with
   |some (ks,r)=>some (.slice ks (w_ r e len))
   |none=>none
  |_=>none
 |x=>match Di x with|true=>some (.v x)|false=>none
def Uz(mem:M_):List CK->List Value->OD
 |_,[]=>some []
 |cks,x::xs=>match jT (cks.headD .other) mem x,Uz mem cks.tail xs with
  |some d,some ds=>some (d::ds)
  |_,_=>none
def toD(cks:List CK)(mem:M_)(x:Value):Option D:=
 match x with
 |.agg cs=>match Uz mem cks cs.toList with|some ds=>some (.agg ds)|none=>none
 |x=>jT (cks.headD .other) mem x
def Zp(mem:M_):List (List CK)->List Value->OD
 |_,[]=>some []
 |ckss,x::xs=>match toD (ckss.headD []) mem x,Zp mem ckss.tail xs with
  |some d,some ds=>some (d::ds)
  |_,_=>none
def Alq(mem:M_):List Value->Option (List CK×Row)
 |[.int k n]=>some ([.int k],.mk 1 (fun _ _=>n) (fun _ _=>false) (fun _ _=>.empty) (fun _ _=>.nil))
 |[.slice (some ⟨id,e,some 0⟩) len 0]=>match mem[id]? with
  |some (some b)=>match Yk b with
   |some (ks,r)=>some ([.slice ks],.mk 1 (fun _ _=>0) (fun _ _=>false) (fun _ _=>.empty) (fun _ _=>w_ r e len))
   |none=>none
  |_=>none
 |_=>none
def Ajc(cks:List CK)(mem:M_)(x:Value):Option D:=
 match x with
 |.pointer (some ⟨id,0,some 0⟩)=>match mem[id]? with
  |some (some (.box cells))=>match Alq mem cells with
   |some (ks,r)=>some (.ptr ks r)
   |none=>none
  |_=>none
 |x=>toD cks mem x
def QV(mem:M_):List (List CK)->List Value->OD
 |_,[]=>some []
 |ckss,x::xs=>match Ajc (ckss.headD []) mem x,QV mem ckss.tail xs with
  |some d,some ds=>some (d::ds)
  |_,_=>none
def KZ:List D->Option (List Value)
 |[]=>some []
 |.v x::ds=>match KZ ds with
  |some xs=>some (x::xs)
  |none=>none
 |_=>none
def isV:D->Option Value
 |.v x=>some x
 |.agg ds=>match KZ ds with
  |some xs=>some (.agg ⟨xs⟩)
  |none=>none
 |_=>none
def nD:List D->Option (List Value)
 |[]=>some []
 |d::ds=>match isV d,nD ds with
  |some x,some xs=>some (x::xs)
  |_,_=>none
def tupV:List Value->Value
 |[x]=>x
 |xs=>.tuple ⟨xs⟩
def Bj(own:Bool)(mem:M_):D->Option (Value×M_)
 |.v x=>match Di x with|true=>some (x,mem)|false=>none
 |.slice ks r=>match own with
  |true=>some (.slice (some ⟨mem.length,0,some 0⟩) r.n 0,mem++[some (Hz ks r)])
  |false=>some (.slice (some ⟨mem.length,0,some 0⟩) r.n 0,mem++[some (.row ks false r)])
 |.agg _=>none
 |.ptr ks r=>match own with
  |true=>none
  |false=>some (.pointer (some ⟨mem.length,0,some 0⟩),mem++[some (.row ks false r)])
 |.err b=>some (rX b,mem)
def BJ(own:Bool):List D->M_->Option (List Value×M_)
 |[],mem=>some ([],mem)
 |d::ds,mem=>match Bj own mem d with
  |some (x,mem1)=>match BJ own ds mem1 with
   |some (xs,mem2)=>some (x::xs,mem2)
   |none=>none
  |none=>none
def fromD(own:Bool)(mem:M_):D->Option (Value×M_)
 |.agg ds=>match BJ own ds mem with|some (xs,mem1)=>some (.agg ⟨xs⟩,mem1)|none=>none
 |d=>Bj own mem d
def AU(own:Bool):List D->M_->Option (List Value×M_)
 |[],mem=>some ([],mem)
 |d::ds,mem=>match fromD own mem d with
  |some (x,mem1)=>match AU own ds mem1 with
   |some (xs,mem2)=>some (x::xs,mem2)
   |none=>none
  |none=>none
def kinds(P:Program):Nat->TypeId->List CK
 |0,_=>[.other]
 |d+1,t=>match P.underlying t with
  |some .bool=>[.bool]
  |some (.int k)=>[.int k]
  |some .string=>[.str]
  |some (.slice e)=>[.slice (kinds P d e)]
  |some (.struct fs)=>fs.toList.flatMap fun f=>kinds P d f.type
  |some (.array n e)=>(List.replicate n (kinds P d e)).flatten
  |_=>[.other]
def Aet(P:Program)(g:FuncId):List (List CK):=match P.funcs[g]? with
 |some fn=>fn.params.toList.map (kinds P 8)
 |none=>[]
def Yn(P:Program)(g:FuncId):List (List CK):=match P.funcs[g]? with
 |some fn=>fn.resultTypes.toList.map (kinds P 8)
 |none=>[]
def KR(ρ:Operand->Value)(c:Call):Option (FuncId×List Value):=
 match c.callee with
 |.value f=>match ρ f with
  |.func (.func g) first captured=>some (g,first.toList++c.args.toList.map ρ++captured.toList)
  |_=>none
 |_=>none
def NU{α:Type}(P:Program)(ρ:Operand->Value)(t:TypeId)(parts:Array (Nat×Operand))(k:Value->Option α):Option α:=
 match(P.info? t).bind (·.zero),(parts.toList.map fun p=>(p.1,ρ p.2)).all (fun p=> !Iz p.2)with
 |some z,true=>match atom z,P.built t (parts.toList.map fun p=>(p.1,ρ p.2))with
  |true,some cells=>k (.agg cells)
  |_,_=>none
 |_,_=>none
def evQ{α:Type}(C:Cx)(calls:Bool)(mem:M_)(ρ:Operand->Value)(o:Oper)(k:Value->Option α):Option α:=
 match o.op with
 |.build t parts=>NU C.P ρ t parts k
 |.call c=>match KR ρ c with
  |some (g,args)=>match C.X g with
   |some f=>match f args with|some (b,vs)=>br b (k (tupV vs)) none|none=>none
   |none=>match calls&&C.ok.contains g,C.Γ g,Zp mem (Aet C.P g) args with
    |true,some F,some ds=>match F ds with
     |some (c,rs)=>match nD rs with|some vs=>br c (k (tupV vs)) none|none=>none
     |none=>none
    |_,_,_=>none
  |none=>JP C.P mem ρ o k
 |_=>JP C.P mem ρ o k
def IntKind.same:IntKind->IntKind->Bool
 |.i8,.i8=>true
 |.i16,.i16=>true
 |.i32,.i32=>true
 |.i64,.i64=>true
 |.u8,.u8=>true
 |.u16,.u16=>true
 |.u32,.u32=>true
 |.u64,.u64=>true
 |_,_=>false
mutual
def Gf:CK->CK->Bool
 |.int k,.int k'=>IntKind.same k k'
 |.bool,.bool=>true
 |.str,.str=>true
 |.slice a,.slice b=>Fa a b
 |_,_=>false
def Fa:List CK->List CK->Bool
 |[],[]=>true
 |a::as,b::bs=>Gf a b&&Fa as bs
 |_,_=>false
end
def O0(mem:M_)(r:Row)(e j:Nat)(ck:CK)(x:Value):Option (Row×M_):=
 match ck,x with
 |.int k,.int k' n=>match IntKind.same k k' with|true=>some (r.setI e j n,mem)|false=>none
 |.bool,.bool b=>some (r.setB e j b,mem)
 |.str,.string s=>some (r.setS e j s,mem)
 |.slice _,.slice none 0 0=>some (r.setR e j .nil,mem)
 |.slice sub,.slice (some ⟨id,e',some 0⟩) len 0=>match mem[id]? with
  |some (some (.row ks _ s))=>match Fa ks sub with
   |true=>some (r.setR e j (w_ s e' len),mem.set id (some (.row ks false s)))
   |false=>none
  |_=>none
 |_,_=>none
def setCells(mem:M_)(r:Row)(e:Nat):Nat->List CK->List Value->Option (Row×M_)
 |_,_,[]=>some (r,mem)
 |j,ck::ks,x::xs=>match O0 mem r e j ck x with
  |some (r1,mem1)=>setCells mem1 r1 e (j+1) ks xs
  |none=>none
 |_,[],_::_=>none
def Lj(mem:M_)(r:Row)(e j:Nat)(ck:CK)(x:Value):Option (Row×M_):=
 match ck,x with
 |.int k,.int k' n=>match IntKind.same k k' with|true=>some (r.setI e j n,mem)|false=>none
 |.bool,.bool b=>some (r.setB e j b,mem)
 |.str,.string s=>some (r.setS e j s,mem)
 |.slice sub,.slice none 0 0=>match flat sub with|true=>some (r.setR e j .nil,mem)|false=>none
 |.slice sub,.slice (some ⟨id,e',some 0⟩) len 0=>match mem[id]? with
  |some (some (.row ks true s))=>match Fa ks sub&&flat ks with
   |true=>some (r.setR e j (w_ s e' len),mem.set id none)
   |false=>none
  |_=>none
 |_,_=>none
def Fb(mem:M_)(r:Row)(e:Nat):Nat->List CK->List Value->Option (Row×M_)
 |_,_,[]=>some (r,mem)
 |j,ck::ks,x::xs=>match Lj mem r e j ck x with
  |some (r1,mem1)=>Fb mem1 r1 e (j+1) ks xs
  |none=>none
 |_,[],_::_=>none
def LG(mem:M_)(ks:List CK)(n:Nat)(cells:List Value):Nat->Row->Option (Row×M_)
 |0,r=>some (r,mem)
 |m+1,r=>match Fb mem r (n-(m+1)) 0 ks ((cells.drop ((n-(m+1))*ks.length)).take ks.length)with
  |some (r1,mem1)=>LG mem1 ks n cells m r1
  |none=>none
def MH:M_->M_->M_
 |a::as,b::bs=>(match b with|none=>none|some _=>a)::MH as bs
 |_,_=>[]
def Jh(m0 m:M_)(r:Row)(e:Nat):Nat->List CK->List Value->Option (Row×M_)
 |_,_,[]=>some (r,m)
 |j,ck::ks,x::xs=>match Lj m0 r e j ck x with
  |some (r1,m1)=>Jh m0 (MH m m1) r1 e (j+1) ks xs
  |none=>none
 |_,[],_::_=>none
def OM(m0 m:M_)(ks:List CK)(n:Nat)(cells:List Value):Nat->Row->Option (Row×M_)
 |0,r=>some (r,m)
 |k+1,r=>match Jh m0 m r (n-(k+1)) 0 ks ((cells.drop ((n-(k+1))*ks.length)).take ks.length)with
  |some (r1,m1)=>OM m0 m1 ks n cells k r1
  |none=>none
def Al6(mem:M_)(ks:List CK)(n:Nat)(cells:List Value):Option (Row×M_):=match GV ks with
 |true=>OM mem mem ks n cells n (Row.zeros n)
 |false=>LG mem ks n cells n (Row.zeros n)
def Po(mem:M_)(ks:List CK)(n:Nat)(cells:List Value):Nat->Row->Option (Row×M_)
 |0,r=>some (r,mem)
 |m+1,r=>match setCells mem r (n-(m+1)) 0 ks ((cells.drop ((n-(m+1))*ks.length)).take ks.length)with
  |some (r1,mem1)=>Po mem1 ks n cells m r1
  |none=>none
def St.new(σ:St)(d:Option Tmp)(v:Nat->Value)(b:Blk):St:=({σ with mem:=σ.mem++[some b]}).put d (v σ.mem.length)
def Amb(id:Nat):Value:=.pointer (some ⟨id,0,some 0⟩)
def sl0(n id:Nat):Value:=.slice (some ⟨id,0,some 0⟩) n 0
def BR:List CK->List Value->Bool
 |[],[]=>true
 |.int k::ks,.int k' 0::vs=>IntKind.same k k'&&BR ks vs
 |.bool::ks,.bool false::vs=>BR ks vs
 |.str::ks,.string s::vs=>s.data.toList.isEmpty&&BR ks vs
 |.slice _::ks,.slice none 0 0::vs=>BR ks vs
 |_,_=>false
def cell1:Value->Bool
 |.agg _|.tuple _|.chan _=>false
 |_=>true
def VV(P:Program)(mem:M_)(t:TypeId)(x v:Value):Option (M_):=
 match x,P.info? t,(Bc v).all cell1 with
 |.pointer (some ⟨id,e,some j⟩),some i,true=>
  if(Bc v).length=i.size∧0<i.size then
   match mem[id]? with
   |some (some (.box cells))=>if j+i.size<=cells.length then some (mem.set id (some (.box (cells.take j++Bc v++cells.drop (j+i.size)))))else none
   |some (some (.row ks true r))=>match setCells mem r e j (ks.drop j) (Bc v)with
    |some (r1,mem1)=>match mem1[id]? with
     |some (some (.row _ true _))=>some (mem1.set id (some (.row ks true r1)))
     |_=>none
    |none=>none
   |_=>none
  else none
 |_,_,_=>none
def VA(P:Program)(mem:M_)(t:TypeId)(x v:Value):Option (Bool×M_):=
 match x,P.info? t,(Bc v).all cell1 with
 |.pointer (some ⟨id,e,some j⟩),some i,true=>
  if(Bc v).length=i.size∧0<i.size then
   match mem[id]? with
   |some (some (.deep ks r h))=>match XK ks (Fb mem r e j (ks.drop j) (Bc v))with
    |some (r1,mem1)=>match h with
     |none=>some (true,(CU id mem1).set id (some (.deep ks r1 none)))
     |some (eh,jh)=>match Nat.beq i.size 1&&Nat.beq j jh with
      |true=>some (decide (e=eh),(CU id mem1).set id (some (.deep ks r1 none)))
      |false=>none
    |none=>none
   |some (some (.bor p e0 j0 ks r))=>match setCells mem r e j (ks.drop j) (Bc v),mem[p]? with
    |some (r1,_),some (some (.deep kp rp none))=>XK kp (some (true,(CU p mem).set p (some (.deep kp (rp.setR e0 j0 r1) none))))
    |_,_=>none
   |_=>none
  else none
 |_,_,_=>none
def Hl(mem:M_)(id p e j:Nat)(ks kp:List CK)(r rp:Row):M_:=((CU p mem).set p (some (.deep kp rp (some (e,j))))).set id (some (.row ks true r))
def DN(mem:M_):Value->M_
 |.slice (some ⟨id,_,_⟩) _ _=>match mem[id]? with
  |some (some (.bor p e j ks r))=>match mem[p]? with
   |some (some (.deep kp rp none))=>(match GV kp with|true=>mem|false=>Hl mem id p e j ks kp r rp)
   |_=>mem
  |_=>mem
 |_=>mem
def XA(mem:M_)(ks:List CK):Value->Option (Option Nat×Row×Nat)
 |.slice none 0 0=>some (none,.nil,0)
 |.slice (some ⟨id,e,some 0⟩) len 0=>match mem[id]? with
  |some (some (.row Js true r))=>match Fa Js ks with|true=>some (some id,w_ r e len,len)|false=>none
  |_=>none
 |_=>none
def Ox(P:Program)(xt:TypeId)(x:Value):Bool:=match P.underlying xt,x with
 |some (.slice _),.slice _ _ _=>true
 |some .string,.string _=>true
 |_,_=>false
def Sj(mem:M_)(ks:List CK)(x:Value):Option Row:=
 match x with
 |.string s=>match Fa ks [.int .u8]with|true=>some (bytesRow s)|false=>none
 |.slice none 0 0=>some .nil
 |.slice (some ⟨id,e,some 0⟩) len 0=>match mem[id]? with
  |some (some (.row ks2 _ r2))=>match Fa ks2 ks with|true=>some (w_ r2 e len)|false=>none
  |some (some b)=>match Yk b with
   |some (ks2,r2)=>match Fa ks2 ks&&flat ks with|true=>some (w_ r2 e len)|false=>none
   |none=>none
  |_=>none
 |_=>none
def OT(p:Nat)(mem:M_):M_:=CU p (mem.set p none)
def Sl(mem:M_)(ks:List CK)(s x:Value):Option (M_×Row×Nat):=
 match x with
 |.slice (some ⟨id2,0,some 0⟩) n2 0=>match mem[id2]? with
  |some (some (.deep ks2 r2 none))=>match Fa ks2 ks,s with
   |true,.slice none 0 0=>some (OT id2 mem,Row.nil.app (w_ r2 0 n2),0+n2)
   |true,.slice (some ⟨id,0,some 0⟩) n 0=>match mem[id]? with
    |some (some (.deep Js r1 none))=>match Fa Js ks&& !Nat.beq id id2 with
     |true=>some (OT id (OT id2 mem),(w_ r1 0 n).app (w_ r2 0 n2),n+n2)
     |false=>none
    |_=>none
   |_,_=>none
  |_=>none
 |_=>none
noncomputable def nN{α:Type}(C:Cx)(σ:St)(o:Oper)(inl:FuncId->List Value->St->(Value->St->Option α)->Option α)(k:St->Option α):Option α:=
 let ρ:=env σ.τ
 match o.op with
 |.alloc t=>match(C.P.info? t).bind (·.zero)with
  |some z=>match atom z with|true=>k (σ.new o.dst Amb (.box (Bc z)))|false=>none
  |none=>none
 |.box _ x=>match Iz (ρ x)with|false=>k (σ.new o.dst Amb (.box (Bc (ρ x))))|true=>none
 |.build t parts=>NU C.P ρ t parts fun v=>k (σ.put o.dst v)
 |.buildSlice t len parts=>match C.P.underlying t with
  |some (.slice el)=>match C.P.info? el,(parts.toList.map fun p=>(p.1,ρ p.2)).all (fun p=> !Iz p.2)with
   |some ei,true=>
    let ks:=kinds C.P 8 el
    match ei.zero with
    |some z=>if len*ei.size<=16777216∧ei.size=ks.length∧BR ks (Bc z)=true then
      match Instr.fill (fun i=>some (i*ei.size,ei.size)) ((Array.range (len*ei.size)).map (z.cells[· %z.cells.size]!)) (parts.toList.map fun p=>(p.1,ρ p.2))with
      |some cells=>match Nat.beq len 0 with
       |true=>k (σ.new o.dst (fun _=>.slice none 0 0) (.box []))
       |false=>match QE ks,Al6 σ.mem ks len cells.toList with
        |true,some (r,mem1)=>k (({σ with mem:=mem1}:St).new o.dst (sl0 len) (.deep ks r none))
        |_,_=>match Po σ.mem ks len cells.toList len (Row.zeros len)with
         |some (r,mem1)=>k (({σ with mem:=mem1}:St).new o.dst (sl0 len) (.row ks true r))
         |none=>none
      |none=>none
     else none
    |none=>none
   |_,_=>none
  |_=>none
 |.store t a x=>match VV C.P σ.mem t (ρ a) (ρ x)with
  |some mem1=>k (({σ with mem:=mem1}:St).put o.dst (.tuple #[]))
  |none=>match VA C.P σ.mem t (ρ a) (ρ x)with
   |some (c,mem1)=>br c (k (({σ with mem:=mem1}:St).put o.dst (.tuple #[]))) none
   |none=>none
 |.makeSlice t l c=>match C.P.underlying t,ρ l,ρ c with
  |some (.slice el),.int _ l,.int _ c=>match C.P.info? el with
   |some ei=>
    let ks:=kinds C.P 8 el
    match ei.zero with
    |some z=>if ei.size=ks.length∧BR ks (Bc z)=true∧ei.bytes<=1000 then
      match QE ks&&Ic ks with
      |true=>br (decide (0<=l)&&decide (l<=c)&&decide (c<=100000000000)) (k (σ.new o.dst (sl0 l.toNat) (.deep ks (Row.zeros l.toNat) none))) none
      |false=>br (decide (0<=l)&&decide (l<=c)&&decide (c<=100000000000)) (k (σ.new o.dst (sl0 l.toNat) (.row ks true (Row.zeros l.toNat)))) none
     else none
    |none=>none
   |none=>none
  |_,_,_=>none
 |.call c=>match c.callee with
  |.builtin .append=>match c.argTypes.toList,c.args.toList.map ρ with
   |[st,xt],[s,x]=>match C.P.underlying st,Ox C.P xt x with
    |some (.slice el),true=>match C.P.info? el with
     |some ei=>
      let ks:=kinds C.P 8 el
      match ei.zero with
      |some z=>if ei.size=ks.length∧BR ks (Bc z)=true∧ei.bytes<=1000 then
       match XA (DN σ.mem s) ks s,Sj (DN σ.mem s) ks x with
       |some (id,r,n),some r2=>
        br (decide (n+r2.n<=10000000000))
         (k (({σ with mem:=match id with|some i=>(DN σ.mem s).set i none|none=>DN σ.mem s}:St).new o.dst (sl0 (n+r2.n)) (.row ks true (r.app r2)))) none
       |_,_=>match Sl σ.mem ks s x with
        |some (mem1,r,n)=>br (decide (n<=10000000000)) (k (({σ with mem:=mem1}:St).new o.dst (sl0 n) (.deep ks r none))) none
        |none=>none
       else none
      |none=>none
     |none=>none
    |_,_=>none
   |_,_=>none
  |.builtin _=>none
  |_=>match KR ρ c with
   |some (g,args)=>match C.X g with
    |some f=>match f args with|some (b,vs)=>br b (k (σ.put o.dst (tupV vs))) none|none=>none
    |none=>match C.ok.contains g with
    |true=>match C.Γ g with
     |some F=>match QV σ.mem (Aet C.P g) args with
      |some ds=>match F ds with
       |some (c,rs)=>match AU true rs σ.mem with
        |some (vs,mem1)=>br c (k (({σ with mem:=mem1}:St).put o.dst (tupV vs))) none
        |none=>none
       |none=>none
      |none=>none
     |none=>match C.I g with
      |some F=>match F args σ with
       |some (b,v,σ1)=>br b (k (σ1.put o.dst v)) none
       |none=>none
      |none=>inl g args σ fun v σ1=>k (σ1.put o.dst v)
    |false=>none
   |none=>none
 |_=>none
def Aem:Op->Bool
 |.alloc _|.box .. |.build .. |.buildSlice .. |.store .. |.makeSlice .. |.makeMap .. |.mapUpdate .. =>true
 |.call c=>match c.callee with|.builtin .append=>true|.builtin _=>false|_=>true
 |_=>false
noncomputable def Sv{α:Type}(ops:List Oper)(σ:St)(o:Oper)(yes no:St->Option α):Option α:=
 match o.guard with
 |none=>yes σ
 |some (j,want)=>match(ops[j]?).bind (·.dst)with
  |some t=>match Xb σ.τ t with
   |.bool b=>match want with
    |true=>br b (σ.putK (some t) (.bool true) yes) (σ.putK (some t) (.bool false) no)
    |false=>br b (σ.putK (some t) (.bool true) no) (σ.putK (some t) (.bool false) yes)
   |.tuple ⟨[]⟩=>no σ
   |_=>none
  |none=>none
noncomputable def Ah5{α β:Type}(l:List α):(List α->β)->β:=@List.rec α (fun _=>(List α->β)->β) (fun k=>k []) (fun x _ ih k=>ih fun ys=>k (x::ys)) l
noncomputable def Ai2{β:Type}(b:Option Blk)(k:Option Blk->β):β:=match b with
 |some (.box cs)=>Ah5 cs fun cs'=>k (some (.box cs'))
 |some (.row ks own r)=>k (some (.row ks own r))
 |some (.deep ks r h)=>k (some (.deep ks r h))
 |some (.bor p e j ks r)=>k (some (.bor p e j ks r))
 |some (.map c I B)=>k (some (.map c I B))
 |none=>k none
noncomputable def Acb{β:Type}:M_->(M_->β)->β
 |[],k=>k []
 |b::bs,k=>Ai2 b fun b'=>Acb bs fun bs'=>k (b'::bs')
noncomputable def frc{β:Type}(σ:St)(k:St->β):β:=Ah5 σ.τ fun τ=>Acb σ.mem fun m=>k {τ,saved:=σ.saved,mem:=m}
def Rx{α β:Type}:∀(l:List α)(k:List α->β),Ah5 l k=k l
 |[],_=>rfl
 |x::xs,k=>(Rx xs fun ys=>k (x::ys):_)
def Ac2{β:Type}(b:Option Blk)(k:Option Blk->β):Ai2 b k=k b:=by
 unfold Ai2;split
 ·rw[Rx]
 ·rfl
 ·rfl
 ·rfl
 ·rfl
 ·rfl
def XZ{β:Type}:∀(l:M_)(k:M_->β),Acb l k=k l
 |[],_=>rfl
 |b::bs,k=>by rw[Acb,Ac2,XZ bs]
def Ahx{β:Type}(σ:St)(k:St->β):frc σ k=k σ:=by
 unfold frc;rw[Rx,XZ]
noncomputable def Iq{α:Type}(C:Cx)(inl:FuncId->List Value->St->(Value->St->Option α)->Option α)(ops:List Oper):List Oper->St->(St->Option α)->Option α
 |[],σ,k=>k σ
 |o::rest,σ,k=>Sv ops σ o
   (fun σ=>match Aem o.op||isBytes C.P o.op with
    |true=>nN C σ o inl fun σ1=>frc σ1 fun σ2=>Iq C inl ops rest σ2 k
    |false=>match viewLoad C.P σ.mem (env σ.τ) o with
     |some (v,m)=>({σ with mem:=m}:St).putK o.dst v fun σ2=>Iq C inl ops rest σ2 k
     |none=>JP C.P σ.mem (env σ.τ) o fun v=>ask C o v fun v=>σ.putK o.dst v fun σ2=>Iq C inl ops rest σ2 k)
   (fun σ=>σ.putK o.dst (.tuple #[]) fun σ2=>Iq C inl ops rest σ2 k)
noncomputable def EK{α:Type}(C:Cx)(calls:Bool)(ops:List Oper):List Oper->St->(St->Option α)->Option α
 |[],σ,k=>k σ
 |o::rest,σ,k=>Sv ops σ o
   (fun σ=>match viewLoad C.P σ.mem (env σ.τ) o with
    |some (v,m)=>({σ with mem:=m}:St).putK o.dst v fun σ2=>EK C calls ops rest σ2 k
    |none=>evQ C calls σ.mem (env σ.τ) o fun v=>ask C o v fun v=>σ.putK o.dst v fun σ2=>EK C calls ops rest σ2 k)
   (fun σ=>σ.putK o.dst (.tuple #[]) fun σ2=>EK C calls ops rest σ2 k)
def kJ:Op->Bool
 |.alloc _|.box .. |.buildSlice .. |.store .. |.makeSlice .. =>true
 |.call c=>match c.callee with|.builtin .append=>true|_=>false
 |_=>false
def Gp:List Oper->Nat
 |[]=>0
 |o::os=>match kJ o.op with|true=>0|false=>Gp os+1
def Ap:Code->Nat
 |.region id _ _=>id
 |.seq a _=>Ap a
 |.block _ b=>Ap b
 |.loop b=>Ap b
 |.scope b=>Ap b
 |_=>0
def loops:Code->List Code
 |.seq a b=>loops a++loops b
 |.cond _ a b=>loops a++loops b
 |.block _ b=>loops b
 |.loop b=>b::loops b
 |.scope b=>loops b
 |_=>[]
def EN(P:Program)(f:FuncId):List Code:=match(P.funcs[f]?).bind (·.body)with
 |some c=>loops c
 |none=>[]
def Y5:Value->List Nat
 |.pointer (some a)=>[a.block]
 |.slice (some a) _ _=>[a.block]
 |.map (some b)=>[b]
 |_=>[]
def refs:Value->List Nat
 |.agg cs=>cs.toList.flatMap Y5
 |.func _ first captured=>first.toList.flatMap Y5++captured.toList.flatMap Y5
 |v=>Y5 v
def Ie(l:List Nat):List Nat->List Nat
 |[]=>l
 |x::xs=>Ie (match l.contains x with|true=>l|false=>l++[x]) xs
def reach(mem:M_):Nat->List Nat->List Nat
 |0,l=>l
 |n+1,l=>reach mem n (Ie l (l.flatMap fun id=>match(mem[id]? :Option (Option Blk))with|some (some (Blk.box cells))=>cells.flatMap refs|some (some (Blk.bor p _ _ _ _))=>[p]|_=>[]))
def DI:List Nat->Nat->Option Nat
 |[],_=>none
 |x::xs,id=>match Nat.beq x id with
  |true=>some 0
  |false=>match DI xs id with|some i=>some (i+1)|none=>none
def Lc(l:List Nat):Value->Value
 |.pointer (some ⟨id,e,s⟩)=>match DI l id with|some i=>.pointer (some ⟨i,e,s⟩)|none=>unk
 |.slice (some ⟨id,e,s⟩) n c=>match DI l id with|some i=>.slice (some ⟨i,e,s⟩) n c|none=>unk
 |.bool b=>.bool b
 |.int k n=>.int k n
 |.string s=>.string s
 |.map (some id)=>match DI l id with|some i=>.map (some i)|none=>unk
 |.pointer none=>.pointer none
 |.slice none n c=>.slice none n c
 |.nilFunc=>.nilFunc
 |.nilIface=>.nilIface
 |.iface s (.bool b)=>.iface s (.bool b)
 |.func fn ⟨[]⟩ ⟨[]⟩=>.func fn #[] #[]
 |_=>unk
def ren(l:List Nat):Value->Value
 |.agg cs=>.agg ⟨cs.toList.map (Lc l)⟩
 |.func fn first captured=>.func fn ⟨first.toList.map (Lc l)⟩ ⟨captured.toList.map (Lc l)⟩
 |v=>Lc l v
def Qs(l:List Nat):Blk->Option Blk
 |.box cells=>some (.box (cells.map (ren l)))
 |.row ks own r=>some (.row ks own r)
 |.deep ks r h=>some (.deep ks r h)
 |.bor p e j ks r=>match DI l p with|some i=>some (.bor i e j ks r)|none=>none
 |.map c I B=>some (.map c I B)
def GL(live:List Tmp):Nat->List Value->List Value
 |_,[]=>[]
 |t,v::vs=>(match live.contains t with|true=>v|false=>unk)::GL live (t+1) vs
def DL:Nat->Nat->List CK×Nat
 |0,c=>([],c)
 |n+1,c=>match c%16 with
  |1=>(.int .i8::(DL n (c/16)).1,(DL n (c/16)).2)
  |2=>(.int .i16::(DL n (c/16)).1,(DL n (c/16)).2)
  |3=>(.int .i32::(DL n (c/16)).1,(DL n (c/16)).2)
  |4=>(.int .i64::(DL n (c/16)).1,(DL n (c/16)).2)
  |5=>(.int .u8::(DL n (c/16)).1,(DL n (c/16)).2)
  |6=>(.int .u16::(DL n (c/16)).1,(DL n (c/16)).2)
  |7=>(.int .u32::(DL n (c/16)).1,(DL n (c/16)).2)
  |8=>(.int .u64::(DL n (c/16)).1,(DL n (c/16)).2)
  |9=>(.bool::(DL n (c/16)).1,(DL n (c/16)).2)
  |10=>(.str::(DL n (c/16)).1,(DL n (c/16)).2)
  |11=>(.slice (DL n (c/16)).1::(DL n (DL n (c/16)).2).1,(DL n (DL n (c/16)).2).2)
  |12=>([],c/16)
  |_=>([],0)
noncomputable def Td:List Tmp->St->St
 |[],σ=>σ
 |t::ts,σ=>Td ts (match Nat.blt t 10000 with
  |true=>σ
  |false=>match Xb σ.τ (t%10000)with
   |.slice none 0 0=>{σ with τ:=σ.τ.set (t%10000) (.slice (some ⟨σ.mem.length,0,some 0⟩) 0 0),mem:=σ.mem++[some (Hz (DL 40 (t/10000)).1 .nil)]}
   |.pointer (some ⟨id,0,some 0⟩)=>match σ.mem[id]? with
    |some (some (.box cells))=>match cells[(t/10000)%64]? with
     |some (.slice none 0 0)=>{σ with mem:=(σ.mem++[some (Hz (DL 40 (t/640000)).1 .nil)]).set id (some (.box (cells.set ((t/10000)%64) (.slice (some ⟨σ.mem.length,0,some 0⟩) 0 0))))}
     |_=>σ
    |_=>σ
   |_=>σ)
def Nh(live:List Tmp)(σ:St):St:=
 let τ:=GL live 0 σ.τ
 let l:=reach σ.mem 2 (Ie [] (τ.flatMap refs++σ.saved.flatMap (·.flatMap refs)))
 {τ:=τ.map (ren l),saved:=σ.saved.map (·.map (ren l)),mem:=l.map fun id=>(match σ.mem[id]? with|some (some b)=>Qs l b|_=>none)}
noncomputable def norm(live:List Tmp)(σ:St):St:=Nh live (Td live σ)
noncomputable def nrm(live:Option (List Tmp))(σ:St):St:=match live with
 |some l=>norm l σ
 |none=>σ
noncomputable def BF(lv:List Tmp)(lx:Option (List Tmp)){α:Type}(R:St->Option α)(K:X->St->Option α):X->St->Option α:=fun x σ=>match x with
 |.normal=>R (norm lv σ)
 |.exit id=>K (.exit id) (nrm lx σ)
 |.ret=>K .ret (nrm lx σ)
noncomputable def rounds(lv:List Tmp)(lx:Option (List Tmp)){α:Type}(f:St->(X->St->Option α)->Option α):Nat->St->(X->St->Option α)->Option α
 |0,_,_=>none
 |n+1,σ,K=>f σ (BF lv lx (fun σ1=>rounds lv lx f n σ1 K) K)
def VS(P:Program)(o:Oper):Bool:=match o.op with
 |.move _|.assign _=>true
 |.fieldAddr s _ f=>match P.underlying s with
  |some (.struct fs)=>match fs[f]? with
   |some fl=>match P.info? fl.type with|some fi=> !Nat.beq fi.size 0|none=>false
   |none=>false
  |_=>false
 |_=>false
def FN(md:Region.Mode)(ops:Array Oper):Nat->Nat->Nat->Bool
 |0,_,_=>false
 |n+1,j,i=>Region.waitsFor md ops j i||(List.range ops.size).any fun m=>Region.waitsFor md ops j m&&FN md ops n m i
def FH:List Nat->Array Bool->Array Bool
 |[],l=>l
 |k::ks,l=>FH ks (l.setIfInBounds k true)
def Ao7:Op->Bool
 |.store .. =>true
 |.buildSlice .. =>true
 |.alloc _=>true
 |.makeSlice .. =>true
 |.call c=>match c.callee with|.builtin .append=>true|_=>false
 |_=>false
def LV(P:Program)(o:Oper):Bool:=VS P o||(match o.op with|.nilCheck _=>true|.slice .. =>true|_=>false)
def iE:Op->Bool
 |.buildSlice .. =>true
 |_=>false
def tlI(ops:Array Oper):Nat->Nat->Bool
 |0,_=>false
 |n+1,i=>(ops[i]?).any (fun o=>Ao7 o.op)||(List.range ops.size).any fun m=>Region.waitsFor .any ops i m&&tlI ops n m
def TJ(ops:Array Oper)(i:Nat):Bool:=tlI ops 4 i
def Ail(P:Program)(md:Region.Mode)(ops:Array Oper)(listed:Array Bool)(k:Nat)(ok:Oper):Bool:=
 (List.range ops.size).all fun j=>Nat.beq j k||listed.getD j true||FN md ops 12 j k||(match ops[j]? with
  |some oj=>ok.apart ops oj&&(!TJ ops j||LV P ok||iE oj.op)
  |none=>true)
def RD(P:Program)(md:Region.Mode)(ops:Array Oper):List Nat->Array Bool->Bool
 |[],_=>true
 |k::ks,listed=>(Region.ready md ops listed).contains k&&(match ops[k]? with|some ok=> !TJ ops k&&Ail P md ops listed k ok|none=>false)&&RD P md ops ks (listed.setIfInBounds k true)
def GH(md:Region.Mode)(ops:Array Oper):List Nat->Array Bool->Bool
 |[],listed=>(Region.ready md ops listed).isEmpty
 |t::ts,listed=>decide (Region.ready md ops listed=[t])&&((ops[t]?).isSome&&TJ ops t)&&GH md ops ts (listed.setIfInBounds t true)
def GN(ops:Array Oper):List Nat:=(List.range ops.size).filter fun i=> !TJ ops i
def jZ(ops:Array Oper):Nat->Array Bool->List Nat
 |0,_=>[]
 |n+1,listed=>match Region.ready .any ops listed with
  |[t]=>t::jZ ops n (listed.setIfInBounds t true)
  |_=>[]
def Q7(ops:Array Oper):List Nat:=jZ ops ops.size (FH (GN ops) (Array.replicate ops.size false))
def Am2(P:Program)(md:Region.Mode)(ops:Array Oper):Bool:=Region.noSelect ops&&Nat.beq ((GN ops).length+(Q7 ops).length) ops.size&&RD P md ops (GN ops) (Array.replicate ops.size false)&&GH md ops (Q7 ops) (FH (GN ops) (Array.replicate ops.size false))
def Qc:Op->Bool
 |.alloc _=>true
 |.makeSlice .. =>true
 |_=>false
def alA(ops:Array Oper):List Nat:=(List.range ops.size).filter fun i=>(ops[i]?).any fun o=>Qc o.op
def Tm(md:Region.Mode)(ops:Array Oper)(x:Nat):List Nat->Array Bool->Bool
 |[],_=>true
 |k::ks,listed=>(Region.ready md ops listed).contains k&&(match ops[k]? with
  |some ok=> !TJ ops k&&(List.range ops.size).all fun j=>Nat.beq j k||listed.getD j true||FN md ops 12 j k||(match ops[j]? with
   |some oj=>ok.apart ops oj&&(!(TJ ops j&& !Nat.beq j x)||Qc oj.op)
   |none=>true)
  |none=>false)&&Tm md ops x ks (listed.setIfInBounds k true)
def Fj(ops:Array Oper)(ps:List Nat):Array Bool:=FH ps (FH (GN ops) (Array.replicate ops.size false))
def tailA(ops:Array Oper)(p q:Nat):List Nat:=jZ ops ops.size (Fj ops [p,q])
def JQ(ops:Array Oper)(p:Nat):Nat:=match Region.ready .any ops (Fj ops [p])with
 |[_,x]=>x
 |_=>ops.size
def Abu(P:Program)(md:Region.Mode)(ops:Array Oper)(p q:Nat)(op oq:Oper):Bool:=
 Region.noSelect ops&&Nat.beq ((GN ops).length+((tailA ops p q).length+1+1)) ops.size&&Tm md ops (JQ ops p) (GN ops) (Array.replicate ops.size false)&&
 (decide (Region.ready md ops (Fj ops [])=[p,q])&&decide (Region.ready md ops (Fj ops [q])=[p]))&&
 (GH md ops (tailA ops p q) (Fj ops [p,q])&&(op.apart ops oq&&op.guard.isNone&&oq.guard.isNone&&Qc op.op&&Qc oq.op))&&
 (match ops[JQ ops p]? with
 |none=>decide (Region.ready md ops (Fj ops [p])=[q])
 |some ox=>decide (Region.ready md ops (Fj ops [p])=[q,JQ ops p])&&decide (Region.ready md ops (Fj ops [p,JQ ops p])=[q])&&decide (tailA ops p q=JQ ops p::(tailA ops p q).tail)&&(LV P ox&&ox.guard.isNone&&ox.apart ops oq&& !Nat.beq (JQ ops p) p&& !Nat.beq (JQ ops p) q))
noncomputable def mkB(P:Program)(ρ:Operand->Value):Op->Option (Bool×Blk×(Nat->Value))
 |.alloc t=>match(P.info? t).bind (·.zero)with
  |some z=>match atom z with|true=>some (true,.box (Bc z),Amb)|false=>none
  |none=>none
 |.makeSlice t l c=>match P.underlying t,ρ l,ρ c with
  |some (.slice el),.int _ l,.int _ c=>match P.info? el with
   |some ei=>match ei.zero with
    |some z=>if ei.size=(kinds P 8 el).length∧BR (kinds P 8 el) (Bc z)=true∧ei.bytes<=1000 then
      some (decide (0<=l)&&decide (l<=c)&&decide (c<=100000000000),.row (kinds P 8 el) true (Row.zeros l.toNat),sl0 l.toNat)
     else none
    |none=>none
   |none=>none
  |_,_,_=>none
 |_=>none
def sQ(l:List Oper):Bool:=l.all fun o=>match o.op with
 |.call c=>(match c.callee with|.value _=>false|_=>true)
 |_=>true
def Qx:List Oper->Nat
 |[]=>0
 |o::os=>match kJ o.op|| !sQ [o]with|true=>0|false=>Qx os+1
def dV(P:Program)(f:FuncId):Bool:=(Yn P f).all fun ks=>ks.all fun k=>match k with|.slice _=>false|.other=>false|_=>true
def XW(C:Cx)(l:List Oper):Bool:=l.all fun o=>match o.op with
 |.call c=>(match c.callee with|.value (.func f)=>((C.Γ f).isSome||(C.X f).isSome)&&dV C.P f|_=>true)
 |_=>true
noncomputable def AA(C:Cx)(fid:FuncId)(lp:Bool)(inl:FuncId->List Value->St->(Value->St->OD)->OD):Code->St->(X->St->OD)->OD
 |.skip,σ,k=>k .normal σ
 |.label _,σ,k=>k .normal σ
 |.region _ ops false,σ,k=>Iq C inl ops.toList ops.toList σ (k .normal)
 |.region _ ops true,σ,k=>match Nat.beq (Gp ops.toList) ops.toList.length&&XW C ops.toList&&Region.lexB .any ops with
  |true=>EK C true ops.toList ops.toList σ (k .normal)
  |false=>match sQ (ops.toList.take (Gp ops.toList))&&Region.lexTailB .any ops (Gp ops.toList)with
   |true=>EK C false ops.toList (ops.toList.take (Gp ops.toList)) σ fun σ1=>Iq C inl ops.toList (ops.toList.drop (Gp ops.toList)) σ1 (k .normal)
   |false=>match XW C (ops.toList.take (Gp ops.toList))&&Region.lexTailB .any ops (Gp ops.toList)with
   |true=>EK C true ops.toList (ops.toList.take (Gp ops.toList)) σ fun σ1=>Iq C inl ops.toList (ops.toList.drop (Gp ops.toList)) σ1 (k .normal)
   |false=>match Region.lexTailB .any ops (Qx ops.toList)with
   |true=>EK C false ops.toList (ops.toList.take (Qx ops.toList)) σ fun σ1=>Iq C inl ops.toList (ops.toList.drop (Qx ops.toList)) σ1 (k .normal)
   |false=>match Am2 C.P .any ops with
    |true=>EK C false ops.toList ((GN ops).filterMap (ops[·]?)) σ fun σ1=>Iq C inl ops.toList ((Q7 ops).filterMap (ops[·]?)) σ1 (k .normal)
    |false=>match alA ops with
     |[p,q]=>(match ops[p]?,ops[q]? with
      |some op,some oq=>(match Abu C.P .any ops p q op oq with
       |true=>EK C true ops.toList ((GN ops).filterMap (ops[·]?)) σ fun σ1=>(match mkB C.P (env σ1.τ) op.op,mkB C.P (env σ1.τ) oq.op with
        |some (c1,b1,g1),some (c2,b2,g2)=>br c1 (br c2 (Iq C inl ops.toList ((tailA ops p q).filterMap (ops[·]?)) ((({σ1 with mem:=σ1.mem++[some b1,some b2]}:St).put op.dst (g1 σ1.mem.length)).put oq.dst (g2 (σ1.mem.length+1))) (k .normal)) none) none
        |_,_=>none)
       |false=>none)
      |_,_=>none)
     |_=>none
 |.seq a b,σ,k=>AA C fid lp inl a σ fun x σ1=>match x with
  |.normal=>AA C fid lp inl b σ1 k
  |.exit id=>k (.exit id) σ1
  |.ret=>k .ret σ1
 |.cond c a b,σ,k=>match env σ.τ c with
  |.bool t=>br t (AA C fid lp inl a σ k) (AA C fid lp inl b σ k)
  |_=>none
 |.block id b,σ,k=>AA C fid lp inl b σ fun x σ1=>match x with
  |.normal=>k .normal σ1
  |.exit id'=>match Nat.beq id' id with|true=>k .normal σ1|false=>k (.exit id') σ1
  |.ret=>k .ret σ1
 |.loop b,σ,k=>match lp,C.Λ fid (Ap b)with
  |true,some L=>L (norm (C.lv fid (Ap b)) σ) k
  |_,_=>rounds (C.lv fid (Ap b)) (C.lx fid (Ap b)) (AA C fid lp inl b) C.N (norm (C.lv fid (Ap b)) σ) k
 |.exit id,σ,k=>k (.exit id) σ
 |.ret,σ,k=>k .ret σ
 |_,_,_=>none
noncomputable def resV(P:Program)(σ:St):List ResultVar->Option (List Value)
 |[]=>some []
 |.tmp t::rs=>(resV P σ rs).map (Xb σ.τ t:: ·)
 |.cell a t::rs=>match Uo P σ.mem t (Xb σ.τ a)with
  |some v=>(resV P σ rs).map (v:: ·)
  |none=>none
noncomputable def inl(C:Cx):Nat->FuncId->List Value->St->(Value->St->OD)->OD
 |0,_,_,_,_=>none
 |d+1,f,args,σ,k=>match C.P.funcs[f]? with
  |some fn=>match fn.body with
   |some c=>AA C f (Nat.ble 4 d) (inl C d) c {τ:=args++List.replicate (fn.ntmps-args.length) (.tuple #[]),saved:=σ.τ::σ.saved,mem:=σ.mem} fun x σ1=>
    match x with
    |.exit _=>none
    |_=>match resV C.P σ1 fn.results.toList,σ1.saved with
     |some vs,τ::saved=>k (tupV vs) {τ,saved,mem:=σ1.mem}
     |_,_=>none
   |none=>none
  |none=>none
def U9(ck:CK)(mem:M_)(x:Value):Option (D×M_):=
 match x with
 |.slice none 0 0=>some (.slice (OG ck) .nil,mem)
 |.slice (some ⟨id,e,some 0⟩) len 0=>match mem[id]? with
  |some (some (.row ks true r))=>match flat ks with
   |true=>some (.slice ks (w_ r e len),mem.set id none)
   |false=>none
  |some (some (.deep ks r none))=>match flat ks with
   |true=>none
   |false=>some (.slice ks (w_ r e len),CU id (mem.set id none))
  |_=>none
 |.iface _ (.bool b)=>some (.err b,mem)
 |x=>(match Di x with|true=>some (.v x,mem)|false=>none)
def Om(mem:M_):List CK->List Value->Option (List D×M_)
 |_,[]=>some ([],mem)
 |cks,x::xs=>match U9 (cks.headD .other) mem x with
  |some (d,mem1)=>match Om mem1 cks.tail xs with
   |some (ds,mem2)=>some (d::ds,mem2)
   |none=>none
  |none=>none
def resD(cks:List CK)(mem:M_)(x:Value):Option (D×M_):=
 match x with
 |.agg cs=>match Om mem cks cs.toList with|some (ds,mem1)=>some (.agg ds,mem1)|none=>none
 |x=>U9 (cks.headD .other) mem x
def OQ(mem:M_):List (List CK)->List Value->OD
 |_,[]=>some []
 |ckss,x::xs=>match resD (ckss.headD []) mem x with
  |some (d,mem1)=>match OQ mem1 ckss.tail xs with
   |some ds=>some (d::ds)
   |none=>none
  |none=>none
noncomputable def BH(C:Cx)(d:Nat)(f:FuncId)(args:List D):OD:=
 match AU false args []with
 |some (vs,mem)=>
  inl C (d+1) f vs {τ:=[],saved:=[],mem} fun v σ=>
   match v with
   |.tuple ⟨[_]⟩=>none
   |.tuple vs=>OQ σ.mem (Yn C.P f) vs.toList
   |v=>OQ σ.mem (Yn C.P f) [v]
 |none=>none
end
open Go.RowKit
structure Loc where
 b:Nat
 off:Nat
 sz:Nat
 tot:Nat
 n:Nat
 own:Bool
 sub:Nat->Nat->Option Nat
abbrev s0:Nat->Nat->Option Nat:=fun _ _=>none
def Loc.foot(L:Loc)(b:Nat):Prop:=(0<L.tot∧b=L.b)∨∃e j,L.sub e j=some b
def Loc.adr(L:Loc)(e j:Nat):Addr:=⟨L.b,L.off+e*L.sz+j,none⟩
abbrev Map:=Nat->Option Loc
inductive V(ρ:Map)(N:Nat):Value->Value->Prop
 |unk{v:Value}:V ρ N (.chan none) v
 |bool{b:Bool}:V ρ N (.bool b) (.bool b)
 |int{k:IntKind}{n:Int}:V ρ N (.int k n) (.int k n)
 |str{s:Y_}:V ρ N (.string s) (.string s)
 |ptrNil:V ρ N (.pointer none) (.pointer none)
 |nilFunc:V ρ N .nilFunc .nilFunc
 |nilIface:V ρ N .nilIface .nilIface
 |iface{s:TypeId}{b:Bool}{c:Value}:(b=true->∃t x,c=.iface t x)->(b=false->c=.nilIface)->V ρ N (.iface s (.bool b)) c
 |sliceNil{a:Option Addr}:V ρ N (.slice none 0 0) (.slice a 0 0)
 |mapDead{id:Nat}{r:Option Nat}:id<N->ρ id=none->V ρ N (.map (some id)) (.map r)
 |map{id:Nat}{L:Loc}:id<N->ρ id=some L->V ρ N (.map (some id)) (.map (some L.b))
 |ptrDead{id e:Nat}{s:Option Nat}{p:Addr}:id<N->ρ id=none->V ρ N (.pointer (some ⟨id,e,s⟩)) (.pointer (some p))
 |sliceDead{id e:Nat}{s:Option Nat}{n c:Nat}{a:Option Addr}{c':Nat}:id<N->ρ id=none->V ρ N (.slice (some ⟨id,e,s⟩) n c) (.slice a n c')
 |ptr{id e j:Nat}{L:Loc}:id<N->ρ id=some L->e<L.n->V ρ N (.pointer (some ⟨id,e,some j⟩)) (.pointer (some (L.adr e j)))
 |slice{id e n:Nat}{L:Loc}{a:Option Addr}{cap:Nat}:id<N->ρ id=some L->e+n<=L.n->n<=cap->(0<n->a=some (L.adr e 0))->(L.own=true->e+cap<=L.tot∧(cap=0∨a=some (L.adr e 0)))->V ρ N (.slice (some ⟨id,e,some 0⟩) n 0) (.slice a n cap)
 |agg{xs ys:Array Value}:xs.size=ys.size->(∀(i:Nat)(x y:Value),xs[i]? =some x->ys[i]? =some y->V ρ N x y)->V ρ N (.agg xs) (.agg ys)
 |tuple{xs ys:Array Value}:xs.size=ys.size->(∀(i:Nat)(x y:Value),xs[i]? =some x->ys[i]? =some y->V ρ N x y)->V ρ N (.tuple xs) (.tuple ys)
 |func{fn:Fn}{xs ys us vs:Array Value}:xs.size=ys.size->(∀(i:Nat)(x y:Value),xs[i]? =some x->ys[i]? =some y->V ρ N x y)->us.size=vs.size->(∀(i:Nat)(x y:Value),us[i]? =some x->vs[i]? =some y->V ρ N x y)->
   V ρ N (.func fn xs us) (.func fn ys vs)
def Less(ρ ρ':Map)(id:Nat):Prop:=ρ' id=ρ id∨ρ' id=none∨∃L o sub,ρ id=some L∧ρ' id=some {L with own:=o,sub:=sub}∧(o=true->L.own=true)
def V.mono{ρ ρ':Map}{N N':Nat}(hN:N<=N')(hρ:∀id,id<N->Less ρ ρ' id){x y:Value}(h:V ρ N x y):V ρ' N' x y:=by
 induction h with
 |unk=>exact .unk
 |bool=>exact .bool
 |int=>exact .int
 |str=>exact .str
 |ptrNil=>exact .ptrNil
 |nilFunc=>exact .nilFunc
 |nilIface=>exact .nilIface
 |iface h1 h2=>exact .iface h1 h2
 |sliceNil=>exact .sliceNil
 |mapDead h1 h2=>exact .mapDead o_ (by rcases hρ _ h1 with h|h|⟨L,_,_,h,_⟩<;>simp_all)
 |@map id L h1 h2=>
  rcases hρ _ h1 with h|h|⟨M,o,sb,h,h',_⟩
  ·exact .map o_ (h.trans h2)
  ·exact .mapDead o_ h
  ·rw[h2]at h;cases h;have h4:=V.map (ρ:=ρ') (N:=N') (Nat.lt_of_lt_of_le h1 hN) h';exact h4
 |ptrDead h1 h2=>exact .ptrDead o_ (by rcases hρ _ h1 with h|h|⟨L,_,_,h,_⟩<;>simp_all)
 |sliceDead h1 h2=>exact .sliceDead o_ (by rcases hρ _ h1 with h|h|⟨L,_,_,h,_⟩<;>simp_all)
 |@ptr id e j L h1 h2 h3=>
  rcases hρ _ h1 with h|h|⟨M,o,sb,h,h',_⟩
  ·exact .ptr o_ (h.trans h2) h3
  ·exact .ptrDead o_ h
  ·rw[h2]at h;cases h;have h4:=V.ptr (ρ:=ρ') (N:=N') (j:=j) (Nat.lt_of_lt_of_le h1 hN) h' h3;exact h4
 |@slice id e n L a cap h1 h2 h3 h4 h5 h6=>
  rcases hρ _ h1 with h|h|⟨M,o,sb,h,h',ho⟩
  ·exact .slice o_ (h.trans h2) h3 h4 h5 h6
  ·exact .sliceDead o_ h
  ·rw[h2]at h;cases h;have h7:=V.slice (ρ:=ρ') (N:=N') (e:=e) (n:=n) (a:=a) (cap:=cap) (Nat.lt_of_lt_of_le h1 hN) h' h3 h4 h5 (fun hf=>h6 (ho hf));exact h7
 |agg h1 _ ih=>exact .agg h1 ih
 |tuple h1 _ ih=>exact .tuple h1 ih
 |func h1 _ h2 _ ih1 ih2=>exact .func h1 ih1 h2 ih2
def V.refl1{ρ:Map}{N:Nat}{v:Value}(h:Di v=true):V ρ N v v:=by
 unfold Di at h;split at h
 ·exact .bool
 ·exact .int
 ·exact .str
 ·exact .nilIface
 ·exact .func rfl (fun i x y hx _=>by simp at hx) rfl (fun i x y hx _=>by simp at hx)
 ·cases h
def V.atom1_eq{ρ:Map}{N:Nat}{x c:Value}(h:V ρ N x c)(ha:Di x=true):c=x:=by
 unfold Di at ha;split at ha
 ·cases h;rfl
 ·cases h;rfl
 ·cases h;rfl
 ·cases h;rfl
 ·cases h with
  |@func _ _ ys _ vs h1 _ h2 _=>
   have e1:ys= #[]:=Array.eq_empty_of_size_eq_zero h1.symm;have e2:vs= #[]:=Array.eq_empty_of_size_eq_zero h2.symm;rw[e1,e2]
 ·cases ha
def V.atom{ρ:Map}{N:Nat}{v:Value}(h:atom v=true):V ρ N v v:=by
 cases v with
 |bool b=>exact .bool
 |int k n=>exact .int
 |string s=>exact .str
 |pointer p=>cases p with
  |none=>exact .ptrNil
  |some a=>simp[Ev.atom]at h
 |slice a n c=>cases a with
  |none=>
   match n,c,h with
   |0,0,_=>exact .sliceNil
  |some a=>simp[Ev.atom]at h
 |nilFunc=>exact .nilFunc
 |nilIface=>exact .nilIface
 |agg cs=>
  refine .agg rfl fun i x y hx hy=>?_;rw[hx]at hy;cases hy;simp only[Ev.atom,List.all_eq_true]at h;have hm:x∈cs.toList:=by
   rw[A1]at hx;obtain⟨hi,rfl⟩:=hx;simp
  have hx2:=h x hm;cases x with
  |bool b=>exact .bool
  |int k n=>exact .int
  |string s=>exact .str
  |pointer p=>cases p with
   |none=>exact .ptrNil
   |some a=>simp at hx2
  |slice a n c=>cases a with
   |none=>
    match n,c,hx2 with
    |0,0,_=>exact .sliceNil
   |some a=>simp at hx2
  |nilFunc=>exact .nilFunc
  |nilIface=>exact .nilIface
  |_=>simp at hx2
 |tuple vs=>
  obtain⟨l⟩:=vs;cases l with
  |nil=>exact .tuple rfl fun i x y hx _=>by simp at hx
  |cons a l=>simp[Ev.atom]at h
 |_=>simp[Ev.atom]at h
mutual
inductive Rds(ok:Nat->Prop)(w:World):List CK->Row->Nat->Nat->Prop
 |mk{ks:List CK}{r:Row}{b off:Nat}(v:Nat->Nat->Value)(h1:∀e j k,e<r.n->ks[j]? =some k->w.cell? ⟨b,off+e*ks.length+j,none⟩=some (v e j))
   (h2:∀e j k,e<r.n->ks[j]? =some k->CellR ok w k r e j (v e j)):Rds ok w ks r b off
inductive CellR(ok:Nat->Prop)(w:World):CK->Row->Nat->Nat->Value->Prop
 |int{k:IntKind}{r:Row}{e j:Nat}:CellR ok w (.int k) r e j (.int k (r.I e j))
 |bool{r:Row}{e j:Nat}:CellR ok w .bool r e j (.bool (r.B e j))
 |str{r:Row}{e j:Nat}:CellR ok w .str r e j (.string (r.S e j))
 |slice0{sub:List CK}{r:Row}{e j:Nat}{a:Option Addr}{cap:Nat}:(r.R e j).n=0->CellR ok w (.slice sub) r e j (.slice a 0 cap)
 |slice{sub:List CK}{r:Row}{e j b off n cap:Nat}:(r.R e j).n=n->n<=cap->ok b->Rds ok w sub (r.R e j) b off->CellR ok w (.slice sub) r e j (.slice (some ⟨b,off,none⟩) n cap)
end
def CellR.mono{ok ok':Nat->Prop}{w w':World}(hok:∀b,ok b->ok' b∧w'.heap[b]? =w.heap[b]?){k:CK}{r:Row}{e j:Nat}{v:Value}(h:CellR ok w k r e j v):CellR ok' w' k r e j v:=by
 refine CellR.rec (ok:=ok) (w:=w) (motive_1:=fun ks r b off _=>w'.heap[b]? =w.heap[b]? ->Rds ok' w' ks r b off) (motive_2:=fun k r e j v _=>CellR ok' w' k r e j v) ?_ ?_ ?_ ?_ ?_ ?_ h
 ·intro ks r b off v h1 _ ih hb;exact .mk v (fun e j k he hk=>(World.cell?_of_block (a:=⟨b,off+e*ks.length+j,none⟩) hb).trans (h1 e j k he hk)) ih
 ·intro k r e j;exact .int
 ·intro r e j;exact .bool
 ·intro r e j;exact .str
 ·intro sub r e j a cap h1;exact .slice0 h1
 ·intro sub r e j b off n cap h1 h2 h3 _ ih;exact .slice h1 h2 (hok b h3).1 (ih (hok b h3).2)
def Rds.mono{ok ok':Nat->Prop}{w w':World}(hok:∀b,ok b->ok' b∧w'.heap[b]? =w.heap[b]?){ks:List CK}{r:Row}{b off:Nat}(hb:w'.heap[b]? =w.heap[b]?)(h:Rds ok w ks r b off):Rds ok' w' ks r b off:=by
 cases h with
 |mk v h1 h2=>exact .mk v (fun e j k he hk=>(World.cell?_of_block (a:=⟨b,off+e*ks.length+j,none⟩) hb).trans (h1 e j k he hk)) fun e j k he hk=>(h2 e j k he hk).mono hok
def Blk.own:Blk->Bool
 |.box _=>true
 |.row _ o _=>o
 |.deep _ _ _=>true
 |.bor _ _ _ _ _=>false
 |.map _ _ _=>true
def Az(mem:M_)(ρ:Map)(id b:Nat):Prop:=∃L blk,ρ id=some L∧mem[id]? =some (some blk)∧blk.own=true∧L.foot b
def okB(mem:M_)(ρ:Map)(w:World)(b:Nat):Prop:=b<w.heap.size∧∀id,¬Az mem ρ id b
def SubR(B:Nat)(w:World)(ks:List CK)(r:Row)(ob:Option Nat)(v:Value):Prop:=∃a cap,v=.slice a r.n cap∧r.n<=cap∧((cap=0∧ob=none)∨∃b off c T,ob=some b∧a=some ⟨b,off,none⟩∧B<=b∧w.heap[b]? =some (.cells c T (0,0))∧off+cap*ks.length<=c.size∧Rds (fun _=>False) w ks r b off)
def DCell(B:Nat)(w:World)(k:CK)(r:Row)(e j:Nat)(hole:Bool)(ob:Option Nat)(v:Value):Prop:=
 match k with
 |.slice sub=>flat sub=true∧v.oneCell'=true∧(hole=false->SubR B w sub (r.R e j) ob v)
 |k=>CellR (fun _=>False) w k r e j v
def Ej(h:Option (Nat×Nat))(e j:Nat):Bool:=match h with
 |some (e',j')=>Nat.beq e e'&&Nat.beq j j'
 |none=>false
def I4(z:Value):List MapEntry->Y_->Value
 |[],_=>z
 |x::xs,s=>match x.key with
  |.string t=>if t=s then x.val else I4 z xs s
  |_=>z
def Abi(k:CK)(I:Y_->Int)(Bo:Y_->Bool):Option (Value×(Y_->Value)):=match k with
 |.int kd=>some (.int kd 0,fun s=>.int kd (I s))
 |.bool=>some (.bool false,fun s=>.bool (Bo s))
 |_=>none
def Anj(k:CK)(I:Y_->Int)(Bo:Y_->Bool)(es:List MapEntry):Prop:=∃z f,Abi k I Bo=some (z,f)∧(∀x∈es,∃s,x.key=.string s)∧∀s,I4 z es s=f s
def BlkR(mem:M_)(ρ:Map)(w:World)(B:Nat)(L:Loc):Blk->Prop
 |.box cells=>B<=L.b∧L.off=0∧L.n=1∧0<L.tot∧∃(c:Array Value)(T:TypeId),w.heap[L.b]? =some (.cells c T (0,0))∧c.size=cells.length∧
   (∀(j:Nat)(x y:Value),cells[j]? =some x->c[j]? =some y->V ρ mem.length x y)∧L.sub=s0
 |.row ks own r=>L.n=r.n∧L.sz=ks.length∧(own=true->L.own=true∧r.n<=L.tot∧(0<L.tot->B<=L.b∧∃(c:Array Value)(T:TypeId),w.heap[L.b]? =some (.cells c T (0,0))∧L.off+L.tot*L.sz<=c.size))∧
   (0<r.n->(own=false->okB mem ρ w L.b)∧Rds (okB mem ρ w) w ks r L.b L.off)∧L.sub=s0
 |.deep ks r h=>L.n=r.n∧L.sz=ks.length∧L.own=true∧r.n<=L.tot∧(0<L.tot->B<=L.b∧∃(c:Array Value)(T:TypeId),w.heap[L.b]? =some (.cells c T (0,0))∧L.off+L.tot*L.sz<=c.size)∧
   (∀e j k,e<r.n->ks[j]? =some k->∃v,w.cell? ⟨L.b,L.off+e*ks.length+j,none⟩=some v∧DCell B w k r e j (Ej h e j) (L.sub e j) v)∧
   (∀e j b,L.sub e j=some b->e<r.n∧(∃sub,ks[j]? =some (.slice sub))∧Ej h e j=false∧b≠L.b)∧
   (GV ks=false->∀e j e' j' b,L.sub e j=some b->L.sub e' j'=some b->e=e'∧j=j')
 |.bor p e j ks r=>flat ks=true∧L.n=r.n∧L.sz=ks.length∧L.own=true∧L.sub=s0∧∃Lp kps rp h a,mem[p]? =some (some (.deep kps rp h))∧ρ p=some Lp∧e<rp.n∧kps[j]? =some (.slice ks)∧Ej h e j=false∧rp.R e j=r∧0<Lp.tot∧
   w.cell? ⟨Lp.b,Lp.off+e*kps.length+j,none⟩=some (.slice a r.n L.tot)∧(L.tot=0∨a=some ⟨L.b,L.off,none⟩)
 |.map k I Bo=>B<=L.b∧0<L.tot∧L.sub=s0∧∃(es:Array MapEntry)(clock:Nat),w.heap[L.b]? =some (.map es clock)∧Anj k I Bo es.toList
structure MemR(mem:M_)(ρ:Map)(B:Nat)(w:World):Prop where
 blk:∀(id:Nat)(b:Blk),mem[id]? =some (some b)->∃L,ρ id=some L∧BlkR mem ρ w B L b
 dead:∀(id:Nat),(∀(b:Blk),mem[id]? ≠some (some b))->ρ id=none
 inj:∀(i j b:Nat),Az mem ρ i b->Az mem ρ j b->i=j
def TmpR(ρ:Map)(N:Nat)(τ:List Value)(ts:Array Value):Prop:=τ.length=ts.size∧∀(t:Nat)(x y:Value),τ[t]? =some x->ts[t]? =some y->V ρ N x y
def TmpsR(ρ:Map)(N:Nat):List (List Value)->List (Array Value)->Prop
 |[],[]=>True
 |τ::τs,t::ts=>TmpR ρ N τ t∧TmpsR ρ N τs ts
 |_,_=>False
structure Rel(w0:World)(σ:St)(a:Act)(cs:List (Array Value))(w:World)(ρ:Map):Prop where
 defers:a.defers=[]
 tmps:TmpR ρ σ.mem.length σ.τ a.tmps
 saved:TmpsR ρ σ.mem.length σ.saved cs
 below:Below w0.heap.size w0 w
 mem:MemR σ.mem ρ w0.heap.size w
def TmpR.mono{ρ ρ':Map}{N N':Nat}(hN:N<=N')(hρ:∀id,id<N->Less ρ ρ' id){τ:List Value}{ts:Array Value}(h:TmpR ρ N τ ts):TmpR ρ' N' τ ts:=
 ⟨h.1,fun t x y hx hy=>(h.2 t x y hx hy).mono hN hρ⟩
def TmpsR.mono{ρ ρ':Map}{N N':Nat}(hN:N<=N')(hρ:∀id,id<N->Less ρ ρ' id):∀{τs:List (List Value)}{ts:List (Array Value)},TmpsR ρ N τs ts->TmpsR ρ' N' τs ts
 |[],[],_=>trivial
 |_::_,_::_,h=>⟨h.1.mono hN hρ,TmpsR.mono hN hρ h.2⟩
def TmpR.getD{ρ:Map}{N:Nat}{τ:List Value}{ts:Array Value}(h:TmpR ρ N τ ts)(t:Nat):V ρ N (τ.getD t unk) (ts.getD t undef):=by
 rw[List.getD_eq_getElem?_getD,Array.getD_eq_getD_getElem?];by_cases ht:t<τ.length
 ·have ht':t<ts.size:=by have:=h.1;omega
  have h1:τ[t]? =some τ[t]:=AK ht;have h2:ts[t]? =some ts[t]:=AJ ht';rw[h1,h2];exact h.2 t _ _ h1 h2
 ·rw[List.getElem?_eq_none o_];exact .unk
def TmpR.env{ρ:Map}{N:Nat}{τ:List Value}{a:Act}(h:TmpR ρ N τ a.tmps)(x:Operand):V ρ N (env τ x) (a.eval x):=by
 cases x with
 |tmp t=>show V ρ N (Xb τ t) _;rw[Jj];exact h.getD t
 |const v=>
  show V ρ N (match atom v with|true=>v|false=>Ev.unk) v
  cases hv:atom v
  ·exact .unk
  ·exact V.atom hv
 |global g=>exact .unk
 |func f=>exact .func rfl (fun i x y hx _=>by simp at hx) rfl (fun i x y hx _=>by simp at hx)
def TmpR.set{ρ:Map}{N:Nat}{τ:List Value}{ts:Array Value}(h:TmpR ρ N τ ts)(t:Nat){x y:Value}(hxy:V ρ N x y):TmpR ρ N (τ.set t x) (ts.setIfInBounds t y):=by
 refine⟨by simpa using h.1,fun u p q hp hq=>?_⟩;rw[List.getElem?_set]at hp;rw[Array.getElem?_setIfInBounds]at hq;by_cases htu:t=u
 ·subst htu;simp only[if_true]at hp hq;split at hp
  ·split at hq
   ·cases hp;cases hq;exact hxy
   ·cases hq
  ·cases hp
 ·simp only[htu,if_false]at hp hq;exact h.2 u p q hp hq
def Rel.put{w0:World}{σ:St}{a:Act}{cs:List (Array Value)}{w:World}{ρ:Map}(h:Rel w0 σ a cs w ρ)(d:Option Tmp){x y:Value}(hxy:V ρ σ.mem.length x y):Rel w0 (σ.put d x) (a.put d y) cs w ρ:=by
 cases d with
 |none=>exact h
 |some t=>exact⟨h.defers,h.tmps.set t hxy,h.saved,h.below,h.mem⟩
def SubR.mono{B:Nat}{w w':World}{ks:List CK}{r:Row}{ob:Option Nat}{v:Value}(hsame:∀b,ob=some b->w'.heap[b]? =w.heap[b]?)(h:SubR B w ks r ob v):SubR B w' ks r ob v:=by
 obtain⟨a,cap,h1,h2,h3⟩:=h;refine⟨a,cap,h1,h2,?_⟩;rcases h3 with h3|⟨b,off,c,T,g1,g2,g3,g4,g5,g6⟩
 ·exact .inl h3
 ·have hb:=hsame b g1;exact .inr ⟨b,off,c,T,g1,g2,g3,hb.trans g4,g5,g6.mono (fun _ hf=>hf.elim) hb⟩
def DCell.mono{B:Nat}{w w':World}{k:CK}{r:Row}{e j:Nat}{hole:Bool}{ob:Option Nat}{v:Value}(hsame:∀b,ob=some b->w'.heap[b]? =w.heap[b]?)(h:DCell B w k r e j hole ob v):DCell B w' k r e j hole ob v:=by
 cases k with
 |slice sub=>exact⟨h.1,h.2.1,fun hh=>(h.2.2 hh).mono hsame⟩
 |int k=>exact CellR.mono (ok:=fun _=>False) (fun _ hf=>hf.elim) h
 |bool=>exact CellR.mono (ok:=fun _=>False) (fun _ hf=>hf.elim) h
 |str=>exact CellR.mono (ok:=fun _=>False) (fun _ hf=>hf.elim) h
 |other=>exact CellR.mono (ok:=fun _=>False) (fun _ hf=>hf.elim) h
def BlkR.shape{mem:M_}{ρ:Map}{w:World}{B:Nat}{L:Loc}{b:Blk}{ks:List CK}{r:Row}(hr:BlkR mem ρ w B L b)(ho:rowOf b=some (ks,r)):L.n=r.n∧L.sz=ks.length:=by
 cases b with
 |box cells=>cases ho
 |row ks' o r'=>cases ho;exact⟨hr.1,hr.2.1⟩
 |deep ks' r' h=>cases ho;exact⟨hr.1,hr.2.1⟩
 |bor p e j ks' r'=>cases ho;exact⟨hr.2.1,hr.2.2.1⟩
 |map _ _ _=>cases ho
def BlkR.deep_same{mem mem':M_}{ρ ρ':Map}{w w':World}{B:Nat}{L:Loc}{ks:List CK}{r:Row}{h:Option (Nat×Nat)}(hsame:∀b,L.foot b->w'.heap[b]? =w.heap[b]?)(hr:BlkR mem ρ w B L (.deep ks r h)):BlkR mem' ρ' w' B L (.deep ks r h):=by
 obtain⟨h1,h2,h3,h4,h5,h6,h7,h8⟩:=hr;refine⟨h1,h2,h3,h4,fun ht=>?_,fun e j k he hk=>?_,h7,h8⟩
 ·obtain⟨g1,c,T,g2,g3⟩:=h5 ht;exact⟨g1,c,T,(hsame _ (.inl ⟨ht,rfl⟩)).trans g2,g3⟩
 ·obtain⟨v,g1,g2⟩:=h6 e j k he hk;exact⟨v,(World.cell?_of_block (a:=⟨L.b,L.off+e*ks.length+j,none⟩) (hsame _ (.inl ⟨o_,rfl⟩))).trans g1,g2.mono fun b hb=>hsame b (.inr ⟨e,j,hb⟩)⟩
def BlkR.deep_lt{mem:M_}{ρ:Map}{w:World}{B:Nat}{L:Loc}{ks:List CK}{r:Row}{h:Option (Nat×Nat)}(hr:BlkR mem ρ w B L (.deep ks r h)){b:Nat}(hb:L.foot b):b<w.heap.size∧B<=b:=by
 obtain⟨h1,h2,h3,h4,h5,h6,h7,h8⟩:=hr;rcases hb with⟨ht,rfl⟩|⟨e,j,hb⟩
 ·obtain⟨g1,c,T,g2,_⟩:=h5 ht;exact⟨(A1.1 g2).1,g1⟩
 ·obtain⟨he,⟨sub,hk⟩,hh,_⟩:=h7 e j b hb;obtain⟨v,_,g2⟩:=h6 e j _ he hk;obtain⟨a,cap,_,_,h3⟩:=g2.2.2 hh;rcases h3 with⟨_,h3⟩|⟨b',off,c,T,g3,g4,g5,g6,_⟩
  ·rw[hb]at h3;cases h3
  ·rw[hb]at g3;cases g3;exact⟨(A1.1 g6).1,g5⟩
def Upb(mem:M_)(ρ:Map)(w:World)(mem':M_)(ρ':Map)(w':World)(blk:Blk):Prop:=∀p e j ks r,blk=.bor p e j ks r->∀kps rp hh Lp,mem[p]? =some (some (.deep kps rp hh))->ρ p=some Lp->mem'[p]? =some (some (.deep kps rp hh))∧ρ' p=some Lp∧(0<Lp.tot->w'.heap[Lp.b]? =w.heap[Lp.b]?)
def BlkR.bor_same{mem mem':M_}{ρ ρ':Map}{w w':World}{B:Nat}{L:Loc}{p e j:Nat}{ks:List CK}{r:Row}(hup:Upb mem ρ w mem' ρ' w' (.bor p e j ks r))(hr:BlkR mem ρ w B L (.bor p e j ks r)):BlkR mem' ρ' w' B L (.bor p e j ks r):=by
 obtain⟨h1,h2,h3,h4,h5,Lp,kps,rp,h,a,g1,g2,g3,g4,g5,g6,g0,g7,g8⟩:=hr;obtain⟨u1,u2,u3⟩:=hup p e j ks r rfl kps rp h Lp g1 g2;exact⟨h1,h2,h3,h4,h5,Lp,kps,rp,h,a,u1,u2,g3,g4,g5,g6,g0,(World.cell?_of_block (a:=⟨Lp.b,Lp.off+e*kps.length+j,none⟩) (u3 g0)).trans g7,g8⟩
def MemR.later{mem:M_}{ρ:Map}{B:Nat}{w w':World}(h:MemR mem ρ B w)(hb:Below w.heap.size w w'):MemR mem ρ B w':=by
 have hsame:∀b o,w.heap[b]? =some o->w'.heap[b]? =w.heap[b]? :=fun b o ho=>hb.block b (by rw[A1]at ho;exact ho.1);have hok:∀b,okB mem ρ w b->okB mem ρ w' b∧w'.heap[b]? =w.heap[b]? :=fun b ⟨h1,h2⟩=>⟨⟨Nat.lt_of_lt_of_le h1 hb.size,h2⟩,hb.block b h1⟩;refine⟨fun id b hid=>?_,h.dead,h.inj⟩;obtain⟨L,hL,hr⟩:=h.blk id b hid;refine⟨L,hL,?_⟩;cases b with
 |box cells=>
  obtain⟨h1,h2,h3,h4,c,T,h5,h6⟩:=hr;exact⟨h1,h2,h3,h4,c,T,(hsame _ _ h5).trans h5,h6⟩
 |deep ks r hole=>exact BlkR.deep_same (fun b hf=>hb.block b (BlkR.deep_lt hr hf).1) hr
 |map k I Bo=>
  obtain⟨h1,h2,h3,es,c,h4,h5⟩:=hr;exact⟨h1,h2,h3,es,c,(hsame _ _ h4).trans h4,h5⟩
 |bor p e j ks r=>
  refine BlkR.bor_same (fun p' e' j' ks' r' _ kps rp hh Lp g1 g2=>⟨g1,g2,fun ht=>?_⟩) hr;obtain⟨M,hM,hp⟩:=h.blk p' _ g1;rw[g2]at hM;cases hM;exact hb.block _ (BlkR.deep_lt hp (.inl ⟨ht,rfl⟩)).1
 |row ks own r=>
  obtain⟨h1,h2,h3,h4,h0⟩:=hr;refine⟨h1,h2,fun ho=>⟨(h3 ho).1,(h3 ho).2.1,fun ht=>?_⟩,fun hn=>⟨fun ho=>(hok _ ((h4 hn).1 ho)).1,?_⟩,h0⟩
  ·obtain⟨h5,c,T,h6,h7⟩:=(h3 ho).2.2 ht;exact⟨h5,c,T,(hsame _ _ h6).trans h6,h7⟩
  ·have h5:=(h4 hn).2;refine h5.mono hok ?_;cases own with
   |false=>exact(hok _ ((h4 hn).1 rfl)).2
   |true=>
    obtain⟨_,c,T,h6,_⟩:=(h3 rfl).2.2 (by have:=(h3 rfl).2.1;omega);exact hsame _ _ h6
def Rel.later{w0:World}{σ:St}{a:Act}{cs:List (Array Value)}{w w':World}{ρ:Map}(h:Rel w0 σ a cs w ρ)(hb:Below w.heap.size w w'):Rel w0 σ a cs w' ρ:=
 ⟨h.defers,h.tmps,h.saved,h.below.trans (hb.mono h.below.size),h.mem.later hb⟩
section
variable{P:Program}{mem:M_}{ρ:Map}{B:Nat}{w:World}
def Loc.adr_add(L:Loc)(e j m:Nat):(L.adr e j).add m=L.adr e (j+m):=by
 unfold Loc.adr Addr.add;split
 ·subst m;rfl
 ·simp[Nat.add_assoc]
def Jc{t:TypeId}{b:Bool}(h:Qu P t=some b)(w:World):(isAgg t).run P w=.ok b w:=by
 unfold Qu at h;unfold isAgg;cases hu:P.underlying t with
 |none=>rw[hu]at h;simp at h
 |some d=>
  rw[hu]at h;simp only[Sem.run_bind,run_underlying hu,Result.andThen];cases d<;>simp at h<;>subst h<;>rfl
def run_typeInfo{t:TypeId}{i:TypeInfo}(h:P.info? t=some i)(w:World):(typeInfo t).run P w=.ok i w:=by
 simp[typeInfo,h]
def run_sizeOf{t:TypeId}{i:TypeInfo}(h:P.info? t=some i)(w:World):(sizeOf t).run P w=.ok i.size w:=by
 simp[sizeOf,run_typeInfo h]
def Ed{t:TypeId}(h:Qu P t=some false){a:Addr}{v:Value}{w:World}(hc:w.cell? a=some v):(loadVar t a).run P w=.ok v w:=by
 simp only[loadVar,Sem.run_bind,Jc h,Result.andThen,Bool.false_eq_true,if_false,run_load,hc]
def Ee{t:TypeId}{i:TypeInfo}(hi:P.info? t=some i)(h:Qu P t=some true){a:Addr}{cs:List Value}(hl:cs.length=i.size){w:World}
  (hc:∀j v,cs[j]? =some v->w.cell? (a.add j)=some v):(loadVar t a).run P w=.ok (.agg ⟨cs⟩) w:=by
 have:=run_loadCells_list (P:=P) w a cs hc;rw[hl]at this;simp[loadVar,Sem.run_bind,Jc h,Result.andThen,run_sizeOf hi,this]
def Vb(hm:MemR mem ρ B w){id:Nat}{cells:List Value}(hb:mem[id]? =some (some (.box cells))){L:Loc}(hL:ρ id=some L){e:Nat}(he:e<L.n){j:Nat}{x:Value}(hx:cells[j]? =some x):
  ∃y,V ρ mem.length x y∧∀w',Below w.heap.size w w'->w'.cell? (L.adr e j)=some y:=by
 obtain⟨M,hM,h1,h2,h3,h4,c,T,h5,h6,h7,_⟩:=hm.blk id _ hb;rw[hL]at hM;cases hM;have hj:j<c.size:=by rw[h6];exact(A0.1 hx).1
 have he0:e=0:=o_;subst he0;refine⟨c[j],h7 j x _ hx (AJ hj),fun w' hw'=>?_⟩;have hlt:L.b<w.heap.size:=(A1.1 h5).1;have:w'.heap[L.b]? =some (.cells c T (0,0)):=(hw'.block _ hlt).trans h5;simp[World.cell?,Loc.adr,this,h2,hj]
def PK(hm:MemR mem ρ B w){id:Nat}{ks:List CK}{own:Bool}{r:Row}(hb:mem[id]? =some (some (.row ks own r))){L:Loc}(hL:ρ id=some L){e:Nat}(he:e<L.n){j:Nat}{k:CK}(hk:ks[j]? =some k):
  ∃y,CellR (okB mem ρ w) w k r e j y∧∀w',Below w.heap.size w w'->w'.cell? (L.adr e j)=some y:=by
 obtain⟨M,hM,h1,h2,h3,h4,_⟩:=hm.blk id _ hb;rw[hL]at hM;cases hM;obtain⟨_,h6⟩:=h4 o_;cases h6 with
 |mk v hv1 hv2=>
  refine⟨v e j,hv2 e j k o_ hk,fun w' hw'=>?_⟩;have h7:=hv1 e j k o_ hk;have hlt:L.b<w.heap.size:=World.block_lt_of_cell? w _ h7;rw[<-h2]at h7;rw[show L.adr e j=(⟨L.b,L.off+e*L.sz+j,none⟩:Addr)from rfl,World.cell?_of_block (w:=w) (hw'.block _ hlt)];exact h7
def ck1:CK->Bool
 |.slice _=>false
 |_=>true
def QG(hm:MemR mem ρ B w){id:Nat}{b:Blk}{ks:List CK}{r:Row}(hb:mem[id]? =some (some b))(hr:rowOf b=some (ks,r)){L:Loc}(hL:ρ id=some L){e:Nat}(he:e<L.n){j:Nat}{k:CK}(hk:ks[j]? =some k):
  ∃y,(ck1 k=true->CellR (okB mem ρ w) w k r e j y)∧∀w',Below w.heap.size w w'->w'.cell? (L.adr e j)=some y:=by
 have deepc:∀{id:Nat}{ks:List CK}{r:Row}{h:Option (Nat×Nat)}{L:Loc}(hb:mem[id]? =some (some (.deep ks r h)))(hL:ρ id=some L){e:Nat}(he:e<L.n){j:Nat}{k:CK}(hk:ks[j]? =some k),
   ∃y,DCell B w k r e j (Ej h e j) (L.sub e j) y∧∀w',Below w.heap.size w w'->w'.cell? (L.adr e j)=some y:=by
  intro id ks r h L hb hL e he j k hk;obtain⟨M,hM,h1,h2,h3,h4,h5,h6,h7,h8⟩:=hm.blk id _ hb;rw[hL]at hM;cases hM;obtain⟨v,g1,g2⟩:=h6 e j k o_ hk;refine⟨v,g2,fun w' hw'=>?_⟩;have hlt:L.b<w.heap.size:=World.block_lt_of_cell? w _ g1;rw[<-h2]at g1;rw[show L.adr e j=(⟨L.b,L.off+e*L.sz+j,none⟩:Addr)from rfl,World.cell?_of_block (w:=w) (hw'.block _ hlt)];exact g1
 cases b with
 |box cells=>cases hr
 |map _ _ _=>cases hr
 |row ks' o r'=>
  cases hr;obtain⟨y,h1,h2⟩:=PK hm hb hL he hk;exact⟨y,fun _=>h1,h2⟩
 |deep ks' r' h=>
  cases hr;obtain⟨y,h1,h2⟩:=deepc hb hL he hk;refine⟨y,fun hc=>?_,h2⟩;cases k with
  |slice sub=>cases hc
  |int k=>exact CellR.mono (ok:=fun _=>False) (fun _ hf=>hf.elim) h1
  |bool=>exact CellR.mono (ok:=fun _=>False) (fun _ hf=>hf.elim) h1
  |str=>exact CellR.mono (ok:=fun _=>False) (fun _ hf=>hf.elim) h1
  |other=>exact CellR.mono (ok:=fun _=>False) (fun _ hf=>hf.elim) h1
 |bor p e0 j0 ks' r'=>
  cases hr;obtain⟨M,hM,h1,h2,h3,h4,h5,Lp,kps,rp,h,a,g1,g2,g3,g4,g5,g6,g0,g7,g8⟩:=hm.blk id _ hb;rw[hL]at hM;cases hM;obtain⟨Mp,hMp,q1,q2,q3,q4,q5,q6,q7,q8⟩:=hm.blk p _ g1;rw[g2]at hMp;cases hMp;obtain⟨v,v1,v2⟩:=q6 e0 j0 _ g3 g4;rw[g7]at v1;cases v1;obtain⟨a',cap,v3,v4,v5⟩:=v2.2.2 g5;obtain⟨w1,_,w3⟩:=Value.slice.inj v3;subst w1;subst w3;rw[g6]at v4 v5;rcases v5 with⟨v5,_⟩|⟨b,off,c,T,u1,u2,u3,u4,u5,u6⟩
  ·omega
  ·have ha:L.b=b∧L.off=off:=by
    rcases g8 with g8|g8
    ·omega
    ·rw[u2]at g8;cases g8;exact⟨rfl,rfl⟩
   obtain⟨rfl,rfl⟩:=ha;cases u6 with
   |mk v hv1 hv2=>
    refine⟨v e j,fun _=>(hv2 e j k o_ hk).mono fun _ hf=>hf.elim,fun w' hw'=>?_⟩;have h7:=hv1 e j k o_ hk;have hlt:L.b<w.heap.size:=World.block_lt_of_cell? w _ h7;rw[<-h3]at h7;rw[show L.adr e j=(⟨L.b,L.off+e*L.sz+j,none⟩:Addr)from rfl,World.cell?_of_block (w:=w) (hw'.block _ hlt)];exact h7
def Il{r:Row}{e:Nat}:∀{ks:List CK}{j:Nat}{vs:List Value},Eb r e ks j=some vs->vs.length=ks.length∧
  ∀(i:Nat)(k:CK)(x:Value),ks[i]? =some k->vs[i]? =some x->(Di x=true∧ck1 k=true)∧∀(ok:Nat->Prop)(w:World)(v:Value),CellR ok w k r e (j+i) v->v=x
 |[],j,vs,h=>by simp[Eb]at h;subst h;simp
 |k::ks,j,vs,h=>by
  have key:∀x:Value,(Di x=true∧ck1 k=true)->(∀(ok:Nat->Prop)(w:World)(v:Value),CellR ok w k r e j v->v=x)->(Eb r e ks (j+1)).map (x:: ·)=some vs->vs.length=(k::ks).length∧
    ∀(i:Nat)(k':CK)(x:Value),(k::ks)[i]? =some k'->vs[i]? =some x->(Di x=true∧ck1 k'=true)∧∀(ok:Nat->Prop)(w:World)(v:Value),CellR ok w k' r e (j+i) v->v=x:=by
   intro x hx hc hmap;cases hr:Eb r e ks (j+1)with
   |none=>rw[hr]at hmap;simp at hmap
   |some us=>
    rw[hr]at hmap;simp at hmap;subst hmap;obtain⟨h1,h2⟩:=Il hr;refine⟨by simp[h1],fun i k' y hk hy=>?_⟩;cases i with
    |zero=>simp at hk hy;subst hk;subst hy;exact⟨hx,fun ok w v hv=>hc ok w v hv⟩
    |succ i=>
     simp at hk hy;obtain⟨h3,h4⟩:=h2 i k' y hk hy;exact⟨h3,fun ok w v hv=>h4 ok w v (by rw[show j+1+i=j+(i+1) by omega];exact hv)⟩
  cases k with
  |int kd=>exact key _ ⟨rfl,rfl⟩ (fun ok w v hv=>by cases hv;rfl) h
  |bool=>exact key _ ⟨rfl,rfl⟩ (fun ok w v hv=>by cases hv;rfl) h
  |str=>exact key _ ⟨rfl,rfl⟩ (fun ok w v hv=>by cases hv;rfl) h
  |slice _=>simp[Eb]at h
  |other=>simp[Eb]at h
def take_drop_getElem? {α:Type} (l:List α) (j n i:Nat) (h:i<n):((l.drop j).take n)[i]? =l[j+i]? :=by
 rw[List.getElem?_take,AM h,List.getElem?_drop]
def MJ(hm:MemR mem ρ B w){t:TypeId}{x v cx:Value}(h:Uo P mem t x=some v)(hx:V ρ mem.length x cx):
  ∃cv,V ρ mem.length v cv∧∀w',Below w.heap.size w w'->(Instr.loadAt t cx).run P w'=.ok cv w':=by
 unfold Uo at h;split at h
 ·rename_i id e j i ag hi hag;cases hx with
  |ptrDead h1 h2=>
   exfalso;split at h
   ·rename_i cells hb;obtain⟨L,hL,_⟩:=hm.blk _ _ hb;rw[h2]at hL;cases hL
   ·rename_i b hnb hb;obtain⟨L,hL,_⟩:=hm.blk _ _ hb;rw[h2]at hL;cases hL
   ·cases h
  |ptr h1 h2 h3=>
   rename_i L;have hrun:∀(w':World)(cv:Value),(loadVar t (L.adr e j)).run P w'=.ok cv w'->(Instr.loadAt t (.pointer (some (L.adr e j)))).run P w'=.ok cv w':=by
    intro w' cv hv;simp[Instr.loadAt,Instr.sureAddr,hv]
   split at h
   ·rename_i cells hb;cases ag with
    |true=>
     simp only at h;split at h
     ·rename_i hle;cases h;have hcell:∀i',i'<i.size->∃y,(∃x,cells[j+i']? =some x∧V ρ mem.length x y)∧∀w',Below w.heap.size w w'->w'.cell? (L.adr e (j+i'))=some y:=by
       intro i' hi';obtain⟨y,hy1,hy2⟩:=Vb hm hb h2 h3 (AK (show j+i'<cells.length by omega));exact⟨y,⟨_,AK o_,hy1⟩,hy2⟩
      let f:Nat->Value:=fun i'=>if hi':i'<i.size then Classical.choose (hcell i' hi')else undef
      have hf:∀i',i'<i.size->(∃x,cells[j+i']? =some x∧V ρ mem.length x (f i'))∧∀w',Below w.heap.size w w'->w'.cell? (L.adr e (j+i'))=some (f i'):=by
       intro i' hi';have:=Classical.choose_spec (hcell i' hi');simp only[f,hi',dif_pos];exact this
      refine⟨.agg ⟨(List.range i.size).map f⟩,.agg z_ fun i' p q hp hq=>?_,fun w' hw'=>hrun _ _ (Ee hi hag y_ fun i' v hv=>?_)⟩
      ·simp only[List.getElem?_toArray]at hp hq;have hi':i'<i.size:=by have:=(A0.1 hq).1;simpa using this
       rw[take_drop_getElem? _ _ _ _ hi']at hp;simp[hi']at hq;subst hq;obtain⟨⟨x,hx1,hx2⟩,_⟩:=hf i' hi';rw[hp]at hx1;cases hx1;exact hx2
      ·have hi':i'<i.size:=by have:=(A0.1 hv).1;simpa using this
       simp[hi']at hv;subst hv;rw[Loc.adr_add];exact(hf i' hi').2 w' hw'
     ·cases h
    |false=>
     simp only at h;obtain⟨y,hy1,hy2⟩:=Vb hm hb h2 h3 h;exact⟨y,hy1,fun w' hw'=>hrun _ _ (Ed hag (hy2 w' hw'))⟩
   ·rename_i b hnb hb;split at h
    case h_2=>cases h
    rename_i ks r hro;cases ag with
    |true=>
     simp only at h;split at h
     ·rename_i hle;cases hr:Eb r e ((ks.drop j).take i.size) j with
      |none=>rw[hr]at h;simp at h
      |some vs=>
       rw[hr]at h;simp at h;subst h;obtain⟨h4,h5⟩:=Il hr;have hlen:vs.length=i.size:=by rw[h4];simp;omega
       have hcell:∀i' v,vs[i']? =some v->Di v=true∧∀w',Below w.heap.size w w'->w'.cell? (L.adr e (j+i'))=some v:=by
        intro i' v hv;have hi':i'<i.size:=by have:=(A0.1 hv).1;omega
        have hk:ks[j+i']? =some ks[j+i']:=AK o_;obtain⟨y,hy1,hy2⟩:=QG hm hb hro h2 h3 hk;obtain⟨h6,h7⟩:=h5 i' ks[j+i'] v (by rw[take_drop_getElem? _ _ _ _ hi',hk]) hv;rw[h7 _ _ _ (hy1 h6.2)]at hy2;exact⟨h6.1,hy2⟩
       refine⟨.agg ⟨vs⟩,.agg rfl fun i' p q hp hq=>?_,fun w' hw'=>hrun _ _ (Ee hi hag hlen fun i' v hv=>?_)⟩
       ·rw[hp]at hq;cases hq;exact V.refl1 (hcell i' p (by simpa using hp)).1
       ·rw[Loc.adr_add];exact(hcell i' v hv).2 w' hw'
     ·cases h
    |false=>
     simp only at h;split at h
     ·rename_i u hu;cases h;obtain⟨h4,h5⟩:=Il hu;have hj:j<ks.length:=by
       simp at h4;omega
      have hk:ks[j]? =some ks[j]:=AK hj;obtain⟨y,hy1,hy2⟩:=QG hm hb hro h2 h3 hk;obtain⟨h6,h7⟩:=h5 0 ks[j] v (by rw[take_drop_getElem? _ _ _ _ o_];exact hk) rfl;rw[h7 _ _ _ (hy1 h6.2)]at hy2;exact⟨v,V.refl1 h6.1,fun w' hw'=>hrun _ _ (Ed hag (hy2 w' hw'))⟩
     ·cases h
   ·cases h
 ·cases h
end
end Go.Ev

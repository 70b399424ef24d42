/- Part of a proof of a statement of this seat. No conditions. -/
import Derived.Test.YtkcnkimndhgkgaaGreatDoorXav
import Derived.Test.YtkcnkimndhgkgaaGreatDoorTie
import Derived.Test.YtkcnkimndhgkgaaGreatDoorCards
import Derived.Lib.LaidU8
import Derived.Lib.LaidTab
import Derived.LaidLaws
import Derived.Handed
set_option linter.all false
namespace Go.Proofs.YtkcnkimndhgkgaaGreatDoor
open Go.ChangeShapes Go.Ev Go.RowKit Go.WideShapes
set_option maxRecDepth 100000
theorem own:ownKnob Tryz.prog.godebug=none:=by kernel_rfl
theorem laidOut:laidOutB Tryz.prog=true:=by kernel_rfl
theorem ints_of_array{H:Type}{enc:TypeId×Value->H}{P:Program}{w:World}{base:Nat}{sp:Nat->Bool}{held:Bool}{fuel:Nat}{t e:TypeId}{n:Nat}{k:IntKind}{cs:List Value}{zs:List Int}{p:List MemPlace}
  (ht:P.underlying t=some (.array n e)) (he:P.underlying e=some (.int k)) (hc:P.cellsOf e=1) (h:DataW.trod enc P w base sp held fuel t cs=some (.agg (zs.map fun z=>.lit (.int k z)),p)) (i:Nat) (z:Int) (hz:zs[i]? =some z):cs[i]? =some (.int k z):=by
 obtain⟨xs,m,rfl,hx,hl,hxl,hall⟩:=DataW.trod_array ht h;have hxs:xs.map (·.1)=zs.map fun z=>(DataW.lit (.int k z):DataW H):=by
  have:=congrArg Prod.fst hx;simpa using this.symm
 have hzl:zs.length=n:=by
  have:=congrArg List.length hxs;simp at this;omega
 have hi:i<n:=by
  have:=(A0.1 hz).1;omega
 have h1:=hall i hi;obtain⟨b,hb⟩:∃b,xs[i]? =some b:=⟨xs[i]'(by omega),AK (by omega)⟩;rw[hb,hc,Nat.mul_one]at h1;obtain⟨y,hcz,hy,_⟩:=DataW.trod_int he h1;have h2:cs[i]? =some (.int k y):=by
  have:=congrArg (·[0]?) hcz;simpa [List.getElem?_take,List.getElem?_drop]using this
 have h3:(xs.map (·.1))[i]? =some (DataW.lit (.int k z):DataW H):=by rw[hxs];simp[hz]
 rw[h2];have h4:(xs.map (·.1))[i]? =some b.1:=by simp[hb]
 rw[h4]at h3;have h5:=Option.some.inj h3;obtain⟨b1,b2⟩:=b;simp only[A6]at hy;have h6:(DataW.lit (Lit.int k y):DataW H)=DataW.lit (Lit.int k z):=hy.1.symm.trans h5;simp only[DataW.lit.injEq,Lit.int.injEq,true_and]at h6;rw[h6]
def laidL:List (String×DataW Unit):=[("math/bits.deBruijn32tab",Rows.laid_math_bits_deBruijn32tab),("math/bits.deBruijn64tab",Rows.laid_math_bits_deBruijn64tab),("internal/strconv.uint64pow10",Rows.laid_internal_strconv_uint64pow10),("unicode/utf8.acceptRanges",Rows.laid_unicode_utf8_acceptRanges),("strconv.ErrRange",Rows.laid_strconv_ErrRange),("strconv.ErrSyntax",Rows.laid_strconv_ErrSyntax),("unicode/utf8.first",Rows.laid_unicode_utf8_first)]
def Xt(w:World):Prop:=laidMet Tryz.prog laidL w
theorem laid_iface{w:World}{n nm:String}{d:DataW Unit}{g t:Nat}{ms:Array (String×TypeId)}(h:Lib.VarReads Tryz.prog w n (.iface nm d))(hg:Tryz.prog.globalNamed n=some g)(ht:(Tryz.prog.globals[g]?).map (·.type)=some t)(hi:Tryz.prog.underlying t=some (.interface ms)):
  ∃te pe,w.cell? ⟨g,0,none⟩=some (.iface te pe):=by
 obtain⟨g',t',⟨l⟩,fuel,p,hg',ht',hvar,hd⟩:=h;obtain rfl:=Option.some.inj (hg.symm.trans hg');obtain rfl:=Option.some.inj (ht.symm.trans ht');cases fuel with
 |zero=>simp[DataW.trod]at hd
 |succ fuel=>
  unfold DataW.trod at hd;rw[hi]at hd;cases l with
  |nil=>simp at hd
  |cons x r=>
   cases r with
   |cons y r=>cases x<;>simp at hd
   |nil=>
    cases x with
    |iface u v=>exact⟨u,v,by rw[World.var?_cell hg hvar 0];rfl⟩
    |_=>simp at hd
theorem Xt.tz{w:World}(h:Xt w):Ld.Wt w:=by
 obtain⟨g,t,cs,fuel,p,hg,ht,hvar,hd⟩:=Lib.laidMet.reads h (n:= "math/bits.deBruijn64tab") (d:=Rows.laid_math_bits_deBruijn64tab) (by simp[laidL]);obtain rfl:g=2:=Option.some.inj (hg.symm.trans (show Tryz.prog.globalNamed "math/bits.deBruijn64tab"=some 2 by kernel_rfl));obtain rfl:t=273:=Option.some.inj (ht.symm.trans (show(Tryz.prog.globals[2]?).map (·.type)=some 273 by kernel_rfl));have hdat:(Rows.laid_math_bits_deBruijn64tab:DataW Unit)=.agg ((Lib.deBruijn64tab.map fun(z:Nat)=>(z:Int)).map fun z=>.lit (.int .u8 z)):=by kernel_rfl
 rw[hdat]at hd;have hcell:∀j,j<Lib.deBruijn64tab.length->w.cell? ⟨2,j,none⟩=some (.int .u8 (Lib.deBruijn64tab.getD j 0)):=fun j hj=>by
  rw[World.var?_cell hg hvar j,<-Array.getElem?_toList];refine ints_of_array Tryz.underlying273 (by kernel_rfl) (by kernel_rfl) hd j _ ?_;rw[List.getElem?_map,AK hj,List.getD_eq_getElem?_getD,AK hj];rfl
 refine⟨hcell,?_⟩;have h0:=hcell 0 (by decide);rcases Nat.lt_or_ge 2 w.heap.size with h|h
 ·exact h
 ·exfalso;unfold World.cell? at h0;rw[show w.heap[2]? =none from Array.getElem?_eq_none h]at h0;cases h0
theorem Xt.wt{w:World}(hs:w.ShapedOpen Tryz.prog)(h:Xt w):Wd w:=by
 refine⟨?_,h.tz,Go.Proofs.cell_of_shapedOpen_int (zero:= #[.int .i64 0]) (t:=3) hs (AD (by kernel_rfl)) (by kernel_rfl) rfl (by kernel_rfl) (by kernel_rfl) Tryz.underlying3,?_,?_⟩
 ·obtain⟨g,t,cs,fuel,p,hg,ht,hvar,hd⟩:=Lib.laidMet.reads h (n:= "internal/strconv.uint64pow10") (d:=Rows.laid_internal_strconv_uint64pow10) (by simp[laidL]);obtain rfl:g=3:=Option.some.inj (hg.symm.trans (show Tryz.prog.globalNamed "internal/strconv.uint64pow10"=some 3 by kernel_rfl));obtain rfl:t=306:=Option.some.inj (ht.symm.trans (show(Tryz.prog.globals[3]?).map (·.type)=some 306 by kernel_rfl));have hdat:(Rows.laid_internal_strconv_uint64pow10:DataW Unit)=Lib.tabData .u64 Lib.pow10Tab:=by kernel_rfl
  rw[hdat]at hd;have:=Lib.cells_of_tab (k:=.u64) (n:=20) (e:=225) (zs:=Lib.pow10Tab) Tryz.underlying306 (by kernel_rfl) (by kernel_rfl) (by kernel_rfl) hd;unfold Lib.TabIs;rw[hvar,<-this]
 ·exact laid_iface (Lib.laidMet.reads h (n:= "strconv.ErrSyntax") (d:=Rows.laid_strconv_ErrSyntax) (by simp[laidL])) (g:=4) (t:=119) (by kernel_rfl) (by kernel_rfl) Tryz.underlying119
 ·exact laid_iface (Lib.laidMet.reads h (n:= "strconv.ErrRange") (d:=Rows.laid_strconv_ErrRange) (by simp[laidL])) (g:=5) (t:=119) (by kernel_rfl) (by kernel_rfl) Tryz.underlying119
noncomputable def low:Nat:=(World.holding Tryz.prog default ⟨#[],#[],[]⟩).heap.size
def rngS:List UInt8:=[118,97,108,117,101,32,111,117,116,32,111,102,32,114,97,110,103,101]
def synS:List UInt8:=[105,110,118,97,108,105,100,32,115,121,110,116,97,120]
def accZ:List Nat:=[128,191,160,191,128,159,144,191,128,143]++List.replicate 22 0
noncomputable def putAt(h:Array Obj)(g:Nat)(cs:List Value):Array Obj:=h.modify g fun
 |.cells _ t frozen=>.cells ⟨cs⟩ t frozen
 |o=>o
noncomputable def tabWorld(os:Os):World:=
 let w0:=World.holding Tryz.prog os ⟨#[.cells #[str rngS] 332,.cells #[str synS] 332],#[],[]⟩
 {w0 with heap:=putAt (putAt (putAt (putAt (putAt (putAt (putAt w0.heap 1 (Lib.deBruijn32tab.map fun(z:Nat)=>Value.int .u8 z)) 2 (Lib.deBruijn64tab.map fun(z:Nat)=>Value.int .u8 z)) 3 (Lib.pow10Tab.map fun(z:Int)=>Value.int .u64 z)) 5 [.iface 330 (.pointer (some ⟨low,0,none⟩))]) 4 [.iface 330 (.pointer (some ⟨low+1,0,none⟩))]) 8 (Go.Pinned.utf8FirstZ.map fun(z:Nat)=>Value.int .u8 z)) 9 (accZ.map fun(z:Nat)=>Value.int .u8 z)}
theorem tab_met(os:Os)(args:Array Value):Xt ((tabWorld os).forCall (fun _ _=>0) ⟨#[],args,[]⟩).memory:=
 laidMet_of_run' 8 (by kernel_rfl) (by kernel_rfl)
theorem lifted_shape{C:Cx}{Wp:World->Prop}(hC:CxW C Wp){K:Checked}(hP:C.P=K.prog){f d e:Nat}{fn:Func}{s:ChangeSpec}{t4:TypeId}{sh:List (Bool×List CK)}(own:ownKnob K.prog.godebug=none)(noInit:K.prog.inits.idxOf? f=none)(hfn:K.prog.funcs[f]? =some fn)(laid:laidOutB K.prog=true)
  (hall:(fn.params.toList.all fun t=>K.prog.readableRec t&&decide (t<K.prog.types.size))=true) (hres:fn.resultTypes= #[t4]) (h4:K.prog.underlying t4=some .bool) (hvars:s.vars=[])
  (hs:∀(H:Type)(ds:List (DataW H)),ds.length=fn.params.size->s.fn H ds={results:=[.lit (.bool true)],args:=ds}) (hsh:shapes K.prog d fn.params.toList=some sh)
  (hev:∀Ds,ArgTs sh Ds->evF C e f Ds=some [.v (.bool true)])
  {conds:List PathCond} {os:Os} (started:os.Started) {H:Type} {enc:TypeId×Value->H} {X:World->Prop} (hX:∀w w':World,w.heap=w'.heap->X w->X w') (hXW:∀w,w.ShapedOpen K.prog->X w->Wp w)
  (wit:∃(w:World)(tape:Tape)(i:Input),w.os=os∧(w.forCall tape i).Shaped K.prog∧i.vars=[]∧Input.okWide K.prog (w.forCall tape i) .any w.heap.size f i∧
   ((s.pre enc K.prog fn conds false (w.forCall tape i).memory i.args∧X (w.forCall tape i).memory)∧sizedMet enc K.prog fn (OpenSpec.ofChange s) false (w.forCall tape i).memory i.args)∧({}:Assume).holds K.prog (lone (Frame.enter K.prog f i.args .normal) [] (w.forCall tape i))):
  ReturnsInHanded {} K os f .any (fun w args=>(s.pre enc K.prog fn conds false w args∧X w)∧sizedMet enc K.prog fn (OpenSpec.ofChange s) false w args) (s.post enc K.prog fn false true false false):=by
 refine returnsInHanded_of_calls own started noInit wit fun w tape i _ hso _ hok hpre _=>?_;obtain⟨_,_,_,fn',hfn',_,_,_,_,hval⟩:=hok;obtain rfl:=Option.some.inj (hfn'.symm.trans hfn);obtain⟨⟨⟨ds,gs,before,hw,_⟩,hx⟩,_⟩:=hpre;have hx':X (w.forCall tape i):=hX (w.forCall tape i).memory (w.forCall tape i) rfl hx;refine(contract_true (C:=C) hP laid hall hres h4 hvars hs hsh hev (hC _ (hXW _ hso hx')) hval (DataW.Whole.of_heap (w':=w.forCall tape i) (by rfl) hw)).mono fun e W' hp=>?_;obtain⟨v,rfl,hp⟩:=hp;exact ChangeSpec.post_blind hp
theorem printNames_lifted(os:Os)(started:os.Started)(H:Type)(enc:TypeId×Value->H):
  ReturnsInHanded {} Tryz.checked os 4 .any (fun w args=>(Rows.printNamesSpec.pre enc Tryz.prog Tryz.f4 Rows.printNamesRow.domain false w args∧Xt w)∧sizedMet enc Tryz.prog Tryz.f4 (OpenSpec.ofChange Rows.printNamesSpec) false w args) (Rows.printNamesSpec.post enc Tryz.prog Tryz.f4 false true false false):=
 lifted_shape (C:=CN q1) (Wp:=Wd) (CN_ok q1_ok) (K:=Tryz.checked) rfl (f:=4) (d:=8) (e:=34) (fn:=Tryz.f4) (t4:=4) (sh:=[]) own (by kernel_rfl) Tryz.func4 laidOut (by kernel_rfl) (by kernel_rfl) Tryz.underlying4 rfl
  (fun H ds h=>by
   have h:ds.length=0:=h
   match ds,h with
   |[],_=>rfl)
  (by kernel_rfl)
  (fun Ds h=>by
   cases h;exact law_pn)
  started (X:=Xt) (fun _ _ hh h=>laidMet.of_heap hh h) (fun _ hs h=>Xt.wt hs h)
  (ChangeSpec.witness_at (enc:=enc) (C:=Tryz.checked) (os:=os) (X:=fun w _=>Xt w) false (tabWorld os) #[] 8 rfl (by kernel_rfl) (by kernel_rfl) (by kernel_rfl) (by kernel_rfl) (by kernel_rfl) (tab_met os _))
theorem printNames_over:Rows.printNamesRow.holds Tryz.pinned (OpenSpec.ofChange Rows.printNamesSpec):=
 OpenClaim.holds_of_wide 4 Tryz.f4 rfl rfl rfl rfl rfl rfl rfl ⟨rfl,rfl,rfl,rfl,rfl⟩ rfl rfl rfl rfl rfl (by kernel_rfl) Tryz.func4 (by kernel_rfl)
  (AD (by kernel_rfl)) (by unfold Func.isWrapper;first|(rw[AM (by decide+kernel)];kernel_rfl)|(rw[AL (by decide+kernel)];exact⟨rfl,rfl⟩))
  (fun os started H enc _=>printNames_lifted os started H enc)
theorem printNames_card:Rows.PrintNamesCardSaid:=
 Claim7.holds_tied_plain_at .later [] [.data,.data,.data,.data,.sentinel,.sentinel,.pinned] true (true,"6bdc8ea3621c223cd2853ffa7cdfb2d504502d4b62a17a8fa195895f4114c5e9") true
  printNames_over (fun _ h=>by cases h) (by kernel_rfl) (fun _ h=>by cases h) printNames_row_tie rfl ⟨rfl,rfl⟩ (by kernel_rfl) rfl
  (fun f fn hf hfn=>by
   obtain rfl:f=4:=Option.some.inj ((show Tryz.prog.funcNamed Rows.printNamesRow.func=some 4 by kernel_rfl).symm.trans hf)|>.symm;obtain rfl:fn=Tryz.f4:=(Option.some.inj (Tryz.func4.symm.trans hfn)).symm;refine⟨by kernel_rfl,fun j t ht=>?_⟩;have hall:(Tryz.f4.params.toList.all fun t=> !Tryz.prog.wantsStandIn t)=true:=by kernel_rfl
   have hm:t∈Tryz.f4.params.toList:=List.mem_of_getElem? (by rw[Array.getElem?_toList];exact ht);have hq:Tryz.prog.wantsStandIn t=false:=by simpa using List.all_eq_true.1 hall t hm
   exact hq)
  (by kernel_rfl)
end Go.Proofs.YtkcnkimndhgkgaaGreatDoor

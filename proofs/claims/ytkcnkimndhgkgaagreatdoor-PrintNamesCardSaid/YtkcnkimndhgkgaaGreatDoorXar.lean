/- Part of a proof of a statement of this seat. No conditions. -/
import Derived.Test.YtkcnkimndhgkgaaGreatDoorXaq
set_option linter.all false
namespace Go.Proofs.YtkcnkimndhgkgaaGreatDoor
open Go.Ev
theorem ucls(a b c d:Int):evF CCm 6 202 [.agg [.v (i64 a),.v (i64 b)],.agg [.v (i64 c),.v (i64 d)]]=br (Rt.iR a&&Rt.iR b&&Rt.iR c&&Rt.iR d) (some [.v (.bool (Rt.cpC a b c d<0))]) (none):=by kernel_rfl
theorem ukls(a b c d:Int):evF CCm 6 148 [.agg [.v (i64 a),.v (i64 b)],.agg [.v (i64 c),.v (i64 d)]]=br (Rt.iR a&&Rt.iR b&&Rt.iR c&&Rt.iR d) (some [.v (.bool (Rt.cpC a b c d<0))]) (none):=by kernel_rfl
theorem ucwh(a:Int):evF CCm 6 203 [.v (i64 a)]=some [.agg [.v (i64 a),.v (i64 1)]]:=by kernel_rfl
theorem ugp1(a b e f c d g h:Int):evF CCm 6 157 [.agg [.v (i64 a),.v (i64 b),.v (i64 e),.v (i64 f)],.agg [.v (i64 c),.v (i64 d),.v (i64 g),.v (i64 h)]]=br (Rt.iR a&&Rt.iR b&&Rt.iR c&&Rt.iR d) (some [.v (i64 (Rt.cpC a b c d))]) (none):=by kernel_rfl
theorem den_cls:Den Tryz.prog 202 Fles:=evF_den CCm_ok fun ds rs h=>by
 unfold Fles at h;split at h
 ·rename_i a b c d;simp only[A5,A6]at h;obtain⟨h0,rfl⟩:=h;refine(ucls a b c d).trans ?_;rw[h0,br_true]
 ·cases h
theorem den_kls:Den Tryz.prog 148 Fles:=evF_den CCm_ok fun ds rs h=>by
 unfold Fles at h;split at h
 ·rename_i a b c d;simp only[A5,A6]at h;obtain⟨h0,rfl⟩:=h;refine(ukls a b c d).trans ?_;rw[h0,br_true]
 ·cases h
theorem den_cwh:Den Tryz.prog 203 Fwho:=evF_den CCm_ok fun ds rs h=>by
 unfold Fwho at h;split at h
 ·rename_i a;simp only[A5,A6]at h;obtain⟨h0,rfl⟩:=h;obtain⟨h1,h2⟩:=Rt.iR_iff.1 h0;refine(ucwh a).trans ?_
  first|rfl|rw[wrap64 (by omega) (by omega)]
 ·cases h
def Fgp1:FD
 |[.agg [.v (.int .i64 a),.v (.int .i64 b),.v (.int .i64 e),.v (.int .i64 f)],.agg [.v (.int .i64 c),.v (.int .i64 d),.v (.int .i64 g),.v (.int .i64 h)]]=>some (Rt.iR a&&Rt.iR b&&Rt.iR c&&Rt.iR d,[.v (i64 (Rt.cpC a b c d))])
 |_=>none
theorem den_gp1:Den Tryz.prog 157 Fgp1:=evF_den CCm_ok fun ds rs h=>by
 unfold Fgp1 at h;split at h
 ·rename_i a b e f c d g i;simp only[A5,A6]at h;obtain⟨h0,rfl⟩:=h;refine(ugp1 a b e f c d g i).trans ?_;rw[h0,br_true]
 ·cases h
noncomputable def gN:List (FuncId×(FD)):=[(202,nzF 6 Fles),(86,nzF 6 Fles),(148,nzF 6 Fles),(203,nzF 6 Fwho),(87,nzF 6 Fwho),(136,nzF 6 Rt.Fcmp),(88,nzF 6 Rt.Fchk),(120,nzF 6 Rt.Fmake),(200,nzF 6 Rt.Fadd),(204,nzF 6 Rt.Fsub),(145,nzF 6 Rt.Fpr),(101,nzF 6 Rt.Fdi),(72,nzF 6 Fsum),(157,nzF 6 Fgp1)]
theorem gN_ok(W:World->Prop):∀p,p∈gN->DenW Tryz.prog W p.1 p.2:=fun p h=>by
 simp only[gN,A8,A7,or_false]at h;rcases h with rfl|rfl|rfl|rfl|rfl|rfl|rfl|rfl|rfl|rfl|rfl|rfl|rfl|rfl
 ·exact nzF_den 6 (den_cls.at W)
 ·exact nzF_den 6 (den_les.at W)
 ·exact nzF_den 6 (den_kls.at W)
 ·exact nzF_den 6 (den_cwh.at W)
 ·exact nzF_den 6 (den_who.at W)
 ·exact nzF_den 6 (Rt.den_cmpp.at W)
 ·exact nzF_den 6 (Rt.den_chk.at W)
 ·exact nzF_den 6 (Rt.den_make.at W)
 ·exact nzF_den 6 (Rt.den_addp.at W)
 ·exact nzF_den 6 (Rt.den_subp.at W)
 ·exact nzF_den 6 (Rt.den_mulp.at W)
 ·exact nzF_den 6 (Rt.den_div.at W)
 ·exact nzF_den 6 (den_sum.at W)
 ·exact nzF_den 6 (den_gp1.at W)
noncomputable def iN:List (FuncId×(List Value->St->Option (Bool×Value×St))):=[(183,Fgrow)]
theorem iN_ok(W:World->Prop):∀p,p∈iN->∀wb,W wb->IAt Tryz.prog wb p.1 p.2:=fun p h wb _=>by
 simp only[iN,A8,A7,or_false]at h;subst h;exact grow_iat wb
noncomputable def CN(g:List (FuncId×(FD))):Cx:=mkCx Tryz.prog fns g [] [] iN
theorem CN_ok{W:World->Prop}{g:List (FuncId×(FD))}(h:∀p,p∈g->DenW Tryz.prog W p.1 p.2):CxW (CN g) W:=mkCx_okI enter mixed h (fun l h=>by cases h) (fun p h=>by cases h) (iN_ok W)
theorem gcons{W:World->Prop}{g:List (FuncId×(FD))}{f:FuncId}{F:FD}(hF:DenW Tryz.prog W f F)(h:∀p,p∈g->DenW Tryz.prog W p.1 p.2):∀p,p∈(f,F)::g->DenW Tryz.prog W p.1 p.2:=fun p hp=>by
 rcases A8.1 hp with rfl|hp
 ·exact hF
 ·exact h p hp
abbrev GL:=List (FuncId×(FD))
noncomputable def g1:GL:=(133,nzF 6 Fcak)::(85,nzF 6 Fpck)::(135,nzF 6 Ford)::(39,nzF 6 (FPc proC proE))::gN
theorem g1_ok(W:World->Prop):∀p,p∈g1->DenW Tryz.prog W p.1 p.2:=gcons (nzF_den 6 (den_cak.at W)) (gcons (nzF_den 6 (den_pck.at W)) (gcons (nzF_den 6 (den_ord.at W)) (gcons (nzF_den 6 (den_pro.at W)) (gN_ok W))))
noncomputable def g2:GL:=(201,cbv (CN g1) 12 201)::(114,cbv (CN g1) 12 114)::g1
theorem g2_ok(W:World->Prop):∀p,p∈g2->DenW Tryz.prog W p.1 p.2:=gcons (cbv_den (CN_ok (g1_ok W)) 12 _) (gcons (cbv_den (CN_ok (g1_ok W)) 12 _) (g1_ok W))
noncomputable def g3:GL:=(178,cbv (CN g2) 14 178)::g2
theorem g3_ok(W:World->Prop):∀p,p∈g3->DenW Tryz.prog W p.1 p.2:=gcons (cbv_den (CN_ok (g2_ok W)) 14 _) (g2_ok W)
noncomputable def g4:GL:=(143,cbv (CN g3) 16 143)::g3
theorem g4_ok(W:World->Prop):∀p,p∈g4->DenW Tryz.prog W p.1 p.2:=gcons (cbv_den (CN_ok (g3_ok W)) 16 _) (g3_ok W)
noncomputable def g5:GL:=(113,cbv (CN g4) 18 113)::(102,cbv (CN g2) 12 102)::(146,cbv (CN g1) 12 146)::(147,cbv (CN g1) 14 147)::g4
theorem g5_ok(W:World->Prop):∀p,p∈g5->DenW Tryz.prog W p.1 p.2:=gcons (cbv_den (CN_ok (g4_ok W)) 18 _) (gcons (cbv_den (CN_ok (g2_ok W)) 12 _) (gcons (cbv_den (CN_ok (g1_ok W)) 12 _) (gcons (cbv_den (CN_ok (g1_ok W)) 14 _) (g4_ok W))))
noncomputable def gT:GL:=(23,nzF 6 (FteV tcG tsG teG))::(26,nzF 6 (FxpV xpC xpD xpE))::(19,nzF 6 (Fckd vB))::(175,nzF 6 Ld.Ftz)::g5
theorem gT_ok:∀p,p∈gT->DenW Tryz.prog Wd p.1 p.2:=gcons (nzF_den 6 den_teV) (gcons (nzF_den 6 den_paX) (gcons (nzF_den 6 (den_ckd vB_ok)) (gcons (nzF_den 6 (Ld.den_tz.mono (fun w h=>h.tz))) (g5_ok Wd))))
def eqB:List UInt8->List UInt8->Bool
 |[],[]=>true
 |a::l,b::m=>Nat.beq a.toNat b.toNat&&eqB l m
 |_,_=>false
theorem eqB_eq:∀{l m:List UInt8},eqB l m=true->l=m
 |[],[],_=>rfl
 |a::l,b::m,h=>by
  have h:=(A2 _ _).mp h;rw[UInt8.toNat_inj.1 (AF h.1),eqB_eq h.2]
 |[],b::m,h=>by cases h
 |a::l,[],h=>by cases h
def jLook:List (ByteArray×List D)->ByteArray->Option (Bool×List D)
 |[],_=>none
 |p::l,s=>match eqB s.data.toList p.1.data.toList with
  |true=>some (true,p.2)
  |false=>jLook l s
def jF(tab:List (ByteArray×List D)):FD
 |[.v (.string s)]=>jLook tab s
 |_=>none
theorem jLook_ok{F:FD}{s:ByteArray}{rs:List D}:∀{tab:List (ByteArray×List D)},(∀p,p∈tab->F [.v (.string p.1)]=some (true,p.2))->jLook tab s=some (true,rs)->F [.v (.string s)]=some (true,rs)
 |[],_,h=>by cases h
 |p::l,hp,h=>by
  unfold jLook at h;split at h
  ·rename_i he;cases h;have:s=p.1:=by
    cases s with|mk s=>cases s with|mk s=>
    cases hq:p.1 with|mk q=>cases q with|mk q=>
    rw[hq]at he;exact congrArg (fun l=>(⟨⟨l⟩⟩:ByteArray)) (eqB_eq he)
   rw[this];exact hp p (List.mem_cons_self ..)
  ·exact jLook_ok (fun q hq=>hp q (List.mem_cons_of_mem _ hq)) h
theorem jF_den{P:Program}{W:World->Prop}{f:FuncId}{F:FD}{tab:List (ByteArray×List D)}(h:DenW P W f F)(hp:∀p,p∈tab->F [.v (.string p.1)]=some (true,p.2)):DenW P W f (jF tab):=h.less fun ds rs hF=>by
 unfold jF at hF;split at hF
 ·exact jLook_ok hp hF
 ·cases hF
theorem tab_nil{F:FD}:∀p:ByteArray×List D,p∈[]->F [.v (.string p.1)]=some (true,p.2):=fun p hp=>by cases hp
theorem tab_cons{F:FD}{s:ByteArray}{r:List D}{tab:List (ByteArray×List D)}(h:F [.v (.string s)]=some (true,r))(ht:∀p,p∈tab->F [.v (.string p.1)]=some (true,p.2)):∀p,p∈(s,r)::tab->F [.v (.string p.1)]=some (true,p.2):=fun p hp=>by
 rcases A8.1 hp with rfl|hp
 ·exact h
 ·exact ht p hp
end Go.Proofs.YtkcnkimndhgkgaaGreatDoor

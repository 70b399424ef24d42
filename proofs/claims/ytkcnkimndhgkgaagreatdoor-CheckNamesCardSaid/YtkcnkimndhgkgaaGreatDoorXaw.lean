import Derived.Test.YtkcnkimndhgkgaaGreatDoorXav
set_option linter.all false
namespace Go.Proofs.YtkcnkimndhgkgaaGreatDoor
open Go.Ev
set_option maxRecDepth 100000
def tabJ:List (ByteArray×List D):=[(sT0,rT0),(sT1,rT1),(sT2,rT2),(sT3,rT3),(sT4,rT4),(sT5,rT5),(sT18,rT18),(sT6,rT6),(sT7,rT7),(sT8,rT8),(sT9,rT9),(sT10,rT10),(sT11,rT11),(sT12,rT12),(sT15,rT15),(sT16,rT16),(sT17,rT17),(sT13,rT13),(sT14,rT14),(sT19,rT19),(sT20,rT20)]
theorem tabJ_ok:∀p,p∈tabJ->cbv (CN g7) 26 22 [.v (.string p.1)]=some (true,p.2):=tab_cons (F:=cbv (CN g7) 26 22) jT0 (tab_cons (F:=cbv (CN g7) 26 22) jT1 (tab_cons (F:=cbv (CN g7) 26 22) jT2 (tab_cons (F:=cbv (CN g7) 26 22) jT3 (tab_cons (F:=cbv (CN g7) 26 22) jT4 (tab_cons (F:=cbv (CN g7) 26 22) jT5 (tab_cons (F:=cbv (CN g7) 26 22) jT18 (tab_cons (F:=cbv (CN g7) 26 22) jT6 (tab_cons (F:=cbv (CN g7) 26 22) jT7 (tab_cons (F:=cbv (CN g7) 26 22) jT8 (tab_cons (F:=cbv (CN g7) 26 22) jT9 (tab_cons (F:=cbv (CN g7) 26 22) jT10 (tab_cons (F:=cbv (CN g7) 26 22) jT11 (tab_cons (F:=cbv (CN g7) 26 22) jT12 (tab_cons (F:=cbv (CN g7) 26 22) jT15 (tab_cons (F:=cbv (CN g7) 26 22) jT16 (tab_cons (F:=cbv (CN g7) 26 22) jT17 (tab_cons (F:=cbv (CN g7) 26 22) jT13 (tab_cons (F:=cbv (CN g7) 26 22) jT14 (tab_cons (F:=cbv (CN g7) 26 22) jT19 (tab_cons (F:=cbv (CN g7) 26 22) jT20 tab_nil))))))))))))))))))))
noncomputable def h8:GL:=(22,jF tabJ)::gT
theorem h8_ok:∀p,p∈h8->DenW Tryz.prog Wd p.1 p.2:=gcons (jF_den (cbv_den (CN_ok g7_ok) 26 _) tabJ_ok) gT_ok
noncomputable def h9:GL:=(5,cbv (CN h8) 30 5)::(6,cbv (CN h8) 30 6)::(10,cbv (CN h8) 30 10)::h8
theorem h9_ok:∀p,p∈h9->DenW Tryz.prog Wd p.1 p.2:=gcons (cbv_den (CN_ok h8_ok) 30 _) (gcons (cbv_den (CN_ok h8_ok) 30 _) (gcons (cbv_den (CN_ok h8_ok) 30 _) h8_ok))
theorem law_cn:evF (CN h9) 34 3 []=some [.v (.bool true)]:=by kernel_rfl
end Go.Proofs.YtkcnkimndhgkgaaGreatDoor

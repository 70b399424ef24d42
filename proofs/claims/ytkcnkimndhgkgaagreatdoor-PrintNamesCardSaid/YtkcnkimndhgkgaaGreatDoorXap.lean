/- Part of a proof of a statement of this seat. No conditions. -/
import Derived.Test.YtkcnkimndhgkgaaGreatDoorXao
set_option linter.all false
namespace Go.Proofs.YtkcnkimndhgkgaaGreatDoor
open Go.Ev Go.Lib Go.RowKit
def rwW(w:ByteArray)(r:Row):Row:=.mk r.n r.I r.B (fun e j=>match e with|0=>w|e+1=>r.S (e+1) j) r.R
def FspW(sR:ByteArray->Row)(w:ByteArray):FD
 |[.v (.string s),.v (.string p)]=>some (decide (s.size<4294967281)&&(p.toList==sSpc.toList)&&(((sR s).S 0 0).toList==w.toList),[.slice [.str] (rwW w (sR s))])
 |_=>none
structure Px where
 k:Int
 ca:Row
 pi:Row
 pc:Int
 wo:Row
 gv:Row
 aa:Row
 fv:Row
 rr:Int
 lr:Row
 lp:Row
 lpo:Nat
 lpn:Nat
 ld:Int
 ba:Row
 pa:Row
 cl:Int
def rdM(k:Int)(ca pi:Row)(pc:Int)(wo gv aa fv:Row)(rr:Int)(lr lp:Row)(lpo lpn:Nat)(ld:Int)(ba pa:Row)(cl:Int):List (Option Blk):=[some (.box [.int .u8 0,.slice none 0 0,.slice none 0 0,.int .u8 0,.slice none 0 0,.slice none 0 0,.slice none 0 0,.slice none 0 0,i64 0,.slice none 0 0,.slice none 0 0,i64 0,.slice none 0 0,.slice none 0 0,.int .u8 0]),some (.box [.int .u8 k,S_ 2 0 ca.n,S_ 3 0 pi.n,.int .u8 pc,S_ 4 0 wo.n,S_ 5 0 gv.n,S_ 6 0 aa.n,S_ 7 0 fv.n,i64 rr,S_ 8 0 lr.n,S_ 9 lpo lpn,i64 ld,S_ 10 0 ba.n,S_ 11 0 pa.n,.int .u8 cl]),some (.deep [.int .i64,.slice [.int .i64],.slice [.int .i64]] ca none),some (.deep [.slice [.int .i64,.int .i64,.int .i64,.int .i64]] pi none),some (.deep [.slice [.int .i64,.int .i64]] wo none),some (.deep [.slice [.int .i64]] gv none),some (.row [.int .i64] true aa),some (.deep [.slice [.int .i64]] fv none),some (.row [.int .i64] true lr),some (.row [.int .i64] true lp),some (.row [.int .i64] true ba),some (.row [.int .i64,.int .i64,.int .i64] true pa)]
def FspV(sR:ByteArray->Row):FD
 |[.v (.string s),.v (.string p)]=>some (decide (s.size<4294967281)&&(p.toList==sSpc.toList),[.slice [.str] (sR s)])
 |_=>none
noncomputable def Crd(sR:ByteArray->Row)(nC:Row->Bool)(nR:Row->Row)(nB qC:Row->Bool)(qR:Row->Row)(qB:Row->Bool)(w:ByteArray):Cx:=mkCx Tryz.prog fns [(125,FspW sR w),(127,FinV nC nR nB),(161,FenV qC qR qB)] []
def t_rd(k:Int)(can pin:Nat)(pc:Int)(won gvn aan fvn:Nat)(rr:Int)(lrn lpo lpn:Nat)(ld:Int)(ban pan:Nat)(cl:Int)(ca pi wo gv aa fv lr lp ba pa:Row):St:=⟨[.pointer (some ⟨0,0,some 0⟩),.pointer (some ⟨1,0,some 0⟩)],[],[some (.box [.int .u8 0,.slice none 0 0,.slice none 0 0,.int .u8 0,.slice none 0 0,.slice none 0 0,.slice none 0 0,.slice none 0 0,i64 0,.slice none 0 0,.slice none 0 0,i64 0,.slice none 0 0,.slice none 0 0,.int .u8 0]),some (.box [.int .u8 k,S_ 2 0 can,S_ 3 0 pin,.int .u8 pc,S_ 4 0 won,S_ 5 0 gvn,S_ 6 0 aan,S_ 7 0 fvn,i64 rr,S_ 8 0 lrn,S_ 9 lpo lpn,i64 ld,S_ 10 0 ban,S_ 11 0 pan,.int .u8 cl]),some (.deep [.int .i64,.slice [.int .i64],.slice [.int .i64]] ca none),some (.deep [.slice [.int .i64,.int .i64,.int .i64,.int .i64]] pi none),some (.deep [.slice [.int .i64,.int .i64]] wo none),some (.deep [.slice [.int .i64]] gv none),some (.row [.int .i64] true aa),some (.deep [.slice [.int .i64]] fv none),some (.row [.int .i64] true lr),some (.row [.int .i64] true lp),some (.row [.int .i64] true ba),some (.row [.int .i64,.int .i64,.int .i64] true pa)]⟩
def noW(o:Oper):Bool:=match o.op with|.binOp .eql _ _ (.const (.string _)) _=>true|_=>false
noncomputable def Cno(sR:ByteArray->Row)(nC:Row->Bool)(nR:Row->Row)(nB qC:Row->Bool)(qR:Row->Row)(qB:Row->Bool):Cx:={mkCx Tryz.prog fns [(125,FspV sR),(127,FinV nC nR nB),(161,FenV qC qR qB)] []with no:=noW}
theorem wCake(sR:ByteArray->Row)(nC:Row->Bool)(nR:Row->Row)(nB qC:Row->Bool)(qR:Row->Row)(qB:Row->Bool)(K:Value->St->OD)(ln:ByteArray)(k:Int)(ca pi:Row)(pc:Int)(wo gv aa fv:Row)(rr:Int)(lr lp:Row)(lpo lpn:Nat)(ld:Int)(ba pa:Row)(cl:Int):inl (Crd sR nC nR nB qC qR qB sCake) 8 62 [bx1,.string ln] {τ:=[bx0,bx1],saved:=[],mem:=rdM k ca pi pc wo gv aa fv rr lr lp lpo lpn ld ba pa cl} (fun v s=>K v (norm0 [0,1] s))=br (ln.size<4294967281&&{data:={toList:=[32]:Array UInt8}:ByteArray}.toList==sSpc.toList&&((sR ln).S 0 0).toList==sCake.toList) (br ((0:Int)<=0&&0<(↑(rwW sCake (sR ln)).n:Int)) (br ((0:Int)<=0&&0<(↑(rwW sCake (sR ln)).n:Int)) (br (0<=(↑(rwW sCake (sR ln)).n:Int)&&(↑(rwW sCake (sR ln)).n:Int)<=(↑(rwW sCake (sR ln)).n:Int)) (br (0<=1&&1<=(↑(↑(rwW sCake (sR ln)).n:Int).toNat:Int)) (br (nC (winOf (rwW sCake (sR ln)) 1 ((↑(rwW sCake (sR ln)).n:Int).toNat-1))) (br (!nB (winOf (rwW sCake (sR ln)) 1 ((↑(rwW sCake (sR ln)).n:Int).toNat-1))) (K (Value.bool false) (t_rd k ca.n pi.n pc wo.n gv.n aa.n fv.n rr lr.n lpo lpn ld ba.n pa.n cl ca pi wo gv aa fv lr lp ba pa)) (br ((0:Int)<=0&&0<(↑(rwW sCake (sR ln)).n:Int)) (br ((↑(nR (winOf (rwW sCake (sR ln)) (0+1) ((↑(rwW sCake (sR ln)).n:Int).toNat-1))).n:Int)>=2) (br ((↑(nR (winOf (rwW sCake (sR ln)) 1 ((↑(rwW sCake (sR ln)).n:Int).toNat-1))).n:Int).tmod 2==0) (br ((0:Int)<=0&&0<(↑(nR (winOf (rwW sCake (sR ln)) (0+1) ((↑(rwW sCake (sR ln)).n:Int).toNat-1))).n:Int)) (br (0<=IntKind.i64.wrap (IntKind.i64.wrap ((↑(nR (winOf (rwW sCake (sR ln)) (0+1) ((↑(rwW sCake (sR ln)).n:Int).toNat-1))).n:Int).tdiv 2)+1)&&IntKind.i64.wrap (IntKind.i64.wrap ((↑(nR (winOf (rwW sCake (sR ln)) (0+1) ((↑(rwW sCake (sR ln)).n:Int).toNat-1))).n:Int).tdiv 2)+1)<=(↑(nR (winOf (rwW sCake (sR ln)) (0+1) ((↑(rwW sCake (sR ln)).n:Int).toNat-1))).n:Int)) (br (0<=IntKind.i64.wrap (IntKind.i64.wrap ((↑(nR (winOf (rwW sCake (sR ln)) (0+1) ((↑(rwW sCake (sR ln)).n:Int).toNat-1))).n:Int).tdiv 2)+1)&&IntKind.i64.wrap (IntKind.i64.wrap ((↑(nR (winOf (rwW sCake (sR ln)) (0+1) ((↑(rwW sCake (sR ln)).n:Int).toNat-1))).n:Int).tdiv 2)+1)<=IntKind.i64.wrap (IntKind.i64.wrap ((↑(nR (winOf (rwW sCake (sR ln)) (0+1) ((↑(rwW sCake (sR ln)).n:Int).toNat-1))).n:Int).tdiv 2)+1)) (br (0<=1&&1<=(↑(IntKind.i64.wrap (IntKind.i64.wrap ((↑(nR (winOf (rwW sCake (sR ln)) (0+1) ((↑(rwW sCake (sR ln)).n:Int).toNat-1))).n:Int).tdiv 2)+1)).toNat:Int)) (br (0<=(↑(nR (winOf (rwW sCake (sR ln)) (0+1) ((↑(rwW sCake (sR ln)).n:Int).toNat-1))).n:Int)&&(↑(nR (winOf (rwW sCake (sR ln)) (0+1) ((↑(rwW sCake (sR ln)).n:Int).toNat-1))).n:Int)<=(↑(nR (winOf (rwW sCake (sR ln)) (0+1) ((↑(rwW sCake (sR ln)).n:Int).toNat-1))).n:Int)) (br (0<=IntKind.i64.wrap (IntKind.i64.wrap ((↑(nR (winOf (rwW sCake (sR ln)) (0+1) ((↑(rwW sCake (sR ln)).n:Int).toNat-1))).n:Int).tdiv 2)+1)&&IntKind.i64.wrap (IntKind.i64.wrap ((↑(nR (winOf (rwW sCake (sR ln)) (0+1) ((↑(rwW sCake (sR ln)).n:Int).toNat-1))).n:Int).tdiv 2)+1)<=(↑(↑(nR (winOf (rwW sCake (sR ln)) (0+1) ((↑(rwW sCake (sR ln)).n:Int).toNat-1))).n:Int).toNat:Int)) (br (ca.n+1<=10000000000) (K (Value.bool true) (t_rd k (ca.n+1) pi.n pc wo.n gv.n aa.n fv.n rr lr.n lpo lpn ld ba.n pa.n cl ((winOf ca 0 ca.n).app (winOf ((((Row.zeros 1).setI 0 0 ((nR (winOf (rwW sCake (sR ln)) 1 ((↑(rwW sCake (sR ln)).n:Int).toNat-1))).I 0 0)).setR 0 1 (winOf (nR (winOf (rwW sCake (sR ln)) 1 ((↑(rwW sCake (sR ln)).n:Int).toNat-1))) 1 ((IntKind.i64.wrap (IntKind.i64.wrap ((↑(nR (winOf (rwW sCake (sR ln)) 1 ((↑(rwW sCake (sR ln)).n:Int).toNat-1))).n:Int).tdiv 2)+1)).toNat-1))).setR 0 2 (winOf (nR (winOf (rwW sCake (sR ln)) 1 ((↑(rwW sCake (sR ln)).n:Int).toNat-1))) (0+(IntKind.i64.wrap (IntKind.i64.wrap ((↑(nR (winOf (rwW sCake (sR ln)) 1 ((↑(rwW sCake (sR ln)).n:Int).toNat-1))).n:Int).tdiv 2)+1)).toNat) ((↑(nR (winOf (rwW sCake (sR ln)) 1 ((↑(rwW sCake (sR ln)).n:Int).toNat-1))).n:Int).toNat-(IntKind.i64.wrap (IntKind.i64.wrap ((↑(nR (winOf (rwW sCake (sR ln)) 1 ((↑(rwW sCake (sR ln)).n:Int).toNat-1))).n:Int).tdiv 2)+1)).toNat))) 0 1)) pi wo gv aa fv lr lp ba pa)) none) none) none) none) none) none) none) (br ((0:Int)<=0&&0<(↑(rwW sCake (sR ln)).n:Int)) (br ((0:Int)<=0&&0<(↑(rwW sCake (sR ln)).n:Int)) (br ((0:Int)<=0&&0<(↑(rwW sCake (sR ln)).n:Int)) (br ((0:Int)<=0&&0<(↑(rwW sCake (sR ln)).n:Int)) (br ((0:Int)<=0&&0<(↑(rwW sCake (sR ln)).n:Int)) (br ((0:Int)<=0&&0<(↑(rwW sCake (sR ln)).n:Int)) (br ((0:Int)<=0&&0<(↑(rwW sCake (sR ln)).n:Int)) (br ((0:Int)<=0&&0<(↑(rwW sCake (sR ln)).n:Int)) (br ((0:Int)<=0&&0<(↑(rwW sCake (sR ln)).n:Int)) (K (Value.bool false) (t_rd k ca.n pi.n pc wo.n gv.n aa.n fv.n rr lr.n lpo lpn ld ba.n pa.n cl ca pi wo gv aa fv lr lp ba pa)) none) none) none) none) none) none) none) none) none)) (br ((0:Int)<=0&&0<(↑(rwW sCake (sR ln)).n:Int)) (br ((0:Int)<=0&&0<(↑(rwW sCake (sR ln)).n:Int)) (br ((0:Int)<=0&&0<(↑(rwW sCake (sR ln)).n:Int)) (br ((0:Int)<=0&&0<(↑(rwW sCake (sR ln)).n:Int)) (br ((0:Int)<=0&&0<(↑(rwW sCake (sR ln)).n:Int)) (br ((0:Int)<=0&&0<(↑(rwW sCake (sR ln)).n:Int)) (br ((0:Int)<=0&&0<(↑(rwW sCake (sR ln)).n:Int)) (br ((0:Int)<=0&&0<(↑(rwW sCake (sR ln)).n:Int)) (br ((0:Int)<=0&&0<(↑(rwW sCake (sR ln)).n:Int)) (K (Value.bool false) (t_rd k ca.n pi.n pc wo.n gv.n aa.n fv.n rr lr.n lpo lpn ld ba.n pa.n cl ca pi wo gv aa fv lr lp ba pa)) none) none) none) none) none) none) none) none) none)) none)) none) none) none) none) none) (none):=by kernel_rfl
theorem wValues(sR:ByteArray->Row)(nC:Row->Bool)(nR:Row->Row)(nB qC:Row->Bool)(qR:Row->Row)(qB:Row->Bool)(K:Value->St->OD)(ln:ByteArray)(k:Int)(ca pi:Row)(pc:Int)(wo gv aa fv:Row)(rr:Int)(lr lp:Row)(lpo lpn:Nat)(ld:Int)(ba pa:Row)(cl:Int):inl (Crd sR nC nR nB qC qR qB sValues) 8 62 [bx1,.string ln] {τ:=[bx0,bx1],saved:=[],mem:=rdM k ca pi pc wo gv aa fv rr lr lp lpo lpn ld ba pa cl} (fun v s=>K v (norm0 [0,1] s))=br (ln.size<4294967281&&{data:={toList:=[32]:Array UInt8}:ByteArray}.toList==sSpc.toList&&((sR ln).S 0 0).toList==sValues.toList) (br ((0:Int)<=0&&0<(↑(rwW sValues (sR ln)).n:Int)) (br ((0:Int)<=0&&0<(↑(rwW sValues (sR ln)).n:Int)) (br (0<=(↑(rwW sValues (sR ln)).n:Int)&&(↑(rwW sValues (sR ln)).n:Int)<=(↑(rwW sValues (sR ln)).n:Int)) (br (0<=1&&1<=(↑(↑(rwW sValues (sR ln)).n:Int).toNat:Int)) (br (nC (winOf (rwW sValues (sR ln)) 1 ((↑(rwW sValues (sR ln)).n:Int).toNat-1))) (br (!nB (winOf (rwW sValues (sR ln)) 1 ((↑(rwW sValues (sR ln)).n:Int).toNat-1))) (K (Value.bool false) (t_rd k ca.n pi.n pc wo.n gv.n aa.n fv.n rr lr.n lpo lpn ld ba.n pa.n cl ca pi wo gv aa fv lr lp ba pa)) (br ((0:Int)<=0&&0<(↑(rwW sValues (sR ln)).n:Int)) (br ((0:Int)<=0&&0<(↑(rwW sValues (sR ln)).n:Int)) (br (k==2) (br (gv.n+1<=10000000000) (K (Value.bool true) (t_rd k ca.n pi.n pc wo.n (gv.n+1) aa.n fv.n rr lr.n lpo lpn ld ba.n pa.n cl ca pi wo ((winOf gv 0 gv.n).app (winOf ((Row.zeros 1).setR 0 0 (winOf (nR (winOf (rwW sValues (sR ln)) 1 ((↑(rwW sValues (sR ln)).n:Int).toNat-1))) 0 (nR (winOf (rwW sValues (sR ln)) 1 ((↑(rwW sValues (sR ln)).n:Int).toNat-1))).n)) 0 1)) aa fv lr lp ba pa)) none) (br ((0:Int)<=0&&0<(↑(rwW sValues (sR ln)).n:Int)) (br (fv.n+1<=10000000000) (K (Value.bool true) (t_rd k ca.n pi.n pc wo.n gv.n aa.n (fv.n+1) rr lr.n lpo lpn ld ba.n pa.n cl ca pi wo gv aa ((winOf fv 0 fv.n).app (winOf ((Row.zeros 1).setR 0 0 (winOf (nR (winOf (rwW sValues (sR ln)) 1 ((↑(rwW sValues (sR ln)).n:Int).toNat-1))) 0 (nR (winOf (rwW sValues (sR ln)) 1 ((↑(rwW sValues (sR ln)).n:Int).toNat-1))).n)) 0 1)) lr lp ba pa)) none) none)) none) none)) none) none) none) none) none) (none):=by kernel_rfl
theorem wGive(sR:ByteArray->Row)(nC:Row->Bool)(nR:Row->Row)(nB qC:Row->Bool)(qR:Row->Row)(qB:Row->Bool)(K:Value->St->OD)(ln:ByteArray)(k:Int)(ca pi:Row)(pc:Int)(wo gv aa fv:Row)(rr:Int)(lr lp:Row)(lpo lpn:Nat)(ld:Int)(ba pa:Row)(cl:Int):inl (Crd sR nC nR nB qC qR qB sGive) 8 62 [bx1,.string ln] {τ:=[bx0,bx1],saved:=[],mem:=rdM k ca pi pc wo gv aa fv rr lr lp lpo lpn ld ba pa cl} (fun v s=>K v (norm0 [0,1] s))=br (ln.size<4294967281&&{data:={toList:=[32]:Array UInt8}:ByteArray}.toList==sSpc.toList&&((sR ln).S 0 0).toList==sGive.toList) (br ((0:Int)<=0&&0<(↑(rwW sGive (sR ln)).n:Int)) (br ((0:Int)<=0&&0<(↑(rwW sGive (sR ln)).n:Int)) (br (0<=(↑(rwW sGive (sR ln)).n:Int)&&(↑(rwW sGive (sR ln)).n:Int)<=(↑(rwW sGive (sR ln)).n:Int)) (br (0<=1&&1<=(↑(↑(rwW sGive (sR ln)).n:Int).toNat:Int)) (br (nC (winOf (rwW sGive (sR ln)) 1 ((↑(rwW sGive (sR ln)).n:Int).toNat-1))) (br (!nB (winOf (rwW sGive (sR ln)) 1 ((↑(rwW sGive (sR ln)).n:Int).toNat-1))) (K (Value.bool false) (t_rd k ca.n pi.n pc wo.n gv.n aa.n fv.n rr lr.n lpo lpn ld ba.n pa.n cl ca pi wo gv aa fv lr lp ba pa)) (br ((0:Int)<=0&&0<(↑(rwW sGive (sR ln)).n:Int)) (br ((0:Int)<=0&&0<(↑(rwW sGive (sR ln)).n:Int)) (br ((0:Int)<=0&&0<(↑(rwW sGive (sR ln)).n:Int)) (br ((0:Int)<=0&&0<(↑(rwW sGive (sR ln)).n:Int)) (K (Value.bool true) (t_rd k ca.n pi.n pc wo.n gv.n ((nR (winOf (rwW sGive (sR ln)) 1 ((↑(rwW sGive (sR ln)).n:Int).toNat-1))).n) fv.n rr lr.n lpo lpn ld ba.n pa.n cl ca pi wo gv (nR (winOf (rwW sGive (sR ln)) 1 ((↑(rwW sGive (sR ln)).n:Int).toNat-1))) fv lr lp ba pa)) none) none) none) none)) none) none) none) none) none) (none):=by kernel_rfl
theorem wRent(sR:ByteArray->Row)(nC:Row->Bool)(nR:Row->Row)(nB qC:Row->Bool)(qR:Row->Row)(qB:Row->Bool)(K:Value->St->OD)(ln:ByteArray)(k:Int)(ca pi:Row)(pc:Int)(wo gv aa fv:Row)(rr:Int)(lr lp:Row)(lpo lpn:Nat)(ld:Int)(ba pa:Row)(cl:Int):inl (Crd sR nC nR nB qC qR qB sRent) 8 62 [bx1,.string ln] {τ:=[bx0,bx1],saved:=[],mem:=rdM k ca pi pc wo gv aa fv rr lr lp lpo lpn ld ba pa cl} (fun v s=>K v (norm0 [0,1] s))=br (ln.size<4294967281&&{data:={toList:=[32]:Array UInt8}:ByteArray}.toList==sSpc.toList&&((sR ln).S 0 0).toList==sRent.toList) (br ((0:Int)<=0&&0<(↑(rwW sRent (sR ln)).n:Int)) (br ((0:Int)<=0&&0<(↑(rwW sRent (sR ln)).n:Int)) (br (0<=(↑(rwW sRent (sR ln)).n:Int)&&(↑(rwW sRent (sR ln)).n:Int)<=(↑(rwW sRent (sR ln)).n:Int)) (br (0<=1&&1<=(↑(↑(rwW sRent (sR ln)).n:Int).toNat:Int)) (br (nC (winOf (rwW sRent (sR ln)) 1 ((↑(rwW sRent (sR ln)).n:Int).toNat-1))) (br (!nB (winOf (rwW sRent (sR ln)) 1 ((↑(rwW sRent (sR ln)).n:Int).toNat-1))) (K (Value.bool false) (t_rd k ca.n pi.n pc wo.n gv.n aa.n fv.n rr lr.n lpo lpn ld ba.n pa.n cl ca pi wo gv aa fv lr lp ba pa)) (br ((0:Int)<=0&&0<(↑(rwW sRent (sR ln)).n:Int)) (br ((0:Int)<=0&&0<(↑(rwW sRent (sR ln)).n:Int)) (br ((0:Int)<=0&&0<(↑(rwW sRent (sR ln)).n:Int)) (br ((0:Int)<=0&&0<(↑(rwW sRent (sR ln)).n:Int)) (br ((0:Int)<=0&&0<(↑(rwW sRent (sR ln)).n:Int)) (br ((↑(nR (winOf (rwW sRent (sR ln)) 1 ((↑(rwW sRent (sR ln)).n:Int).toNat-1))).n:Int)==1) (br ((0:Int)<=0&&0<(↑(nR (winOf (rwW sRent (sR ln)) (0+1) ((↑(rwW sRent (sR ln)).n:Int).toNat-1))).n:Int)) (K (Value.bool true) (t_rd k ca.n pi.n pc wo.n gv.n aa.n fv.n ((nR (winOf (rwW sRent (sR ln)) 1 ((↑(rwW sRent (sR ln)).n:Int).toNat-1))).I 0 0) lr.n lpo lpn ld ba.n pa.n cl ca pi wo gv aa fv lr lp ba pa)) none) (br ((0:Int)<=0&&0<(↑(rwW sRent (sR ln)).n:Int)) (br ((0:Int)<=0&&0<(↑(rwW sRent (sR ln)).n:Int)) (br ((0:Int)<=0&&0<(↑(rwW sRent (sR ln)).n:Int)) (br ((0:Int)<=0&&0<(↑(rwW sRent (sR ln)).n:Int)) (br ((0:Int)<=0&&0<(↑(rwW sRent (sR ln)).n:Int)) (K (Value.bool false) (t_rd k ca.n pi.n pc wo.n gv.n aa.n fv.n rr lr.n lpo lpn ld ba.n pa.n cl ca pi wo gv aa fv lr lp ba pa)) none) none) none) none) none)) none) none) none) none) none)) none) none) none) none) none) (none):=by kernel_rfl
theorem wRooms(sR:ByteArray->Row)(nC:Row->Bool)(nR:Row->Row)(nB qC:Row->Bool)(qR:Row->Row)(qB:Row->Bool)(K:Value->St->OD)(ln:ByteArray)(k:Int)(ca pi:Row)(pc:Int)(wo gv aa fv:Row)(rr:Int)(lr lp:Row)(lpo lpn:Nat)(ld:Int)(ba pa:Row)(cl:Int):inl (Crd sR nC nR nB qC qR qB sRooms) 8 62 [bx1,.string ln] {τ:=[bx0,bx1],saved:=[],mem:=rdM k ca pi pc wo gv aa fv rr lr lp lpo lpn ld ba pa cl} (fun v s=>K v (norm0 [0,1] s))=br (ln.size<4294967281&&{data:={toList:=[32]:Array UInt8}:ByteArray}.toList==sSpc.toList&&((sR ln).S 0 0).toList==sRooms.toList) (br ((0:Int)<=0&&0<(↑(rwW sRooms (sR ln)).n:Int)) (br ((0:Int)<=0&&0<(↑(rwW sRooms (sR ln)).n:Int)) (br (0<=(↑(rwW sRooms (sR ln)).n:Int)&&(↑(rwW sRooms (sR ln)).n:Int)<=(↑(rwW sRooms (sR ln)).n:Int)) (br (0<=1&&1<=(↑(↑(rwW sRooms (sR ln)).n:Int).toNat:Int)) (br (nC (winOf (rwW sRooms (sR ln)) 1 ((↑(rwW sRooms (sR ln)).n:Int).toNat-1))) (br (!nB (winOf (rwW sRooms (sR ln)) 1 ((↑(rwW sRooms (sR ln)).n:Int).toNat-1))) (K (Value.bool false) (t_rd k ca.n pi.n pc wo.n gv.n aa.n fv.n rr lr.n lpo lpn ld ba.n pa.n cl ca pi wo gv aa fv lr lp ba pa)) (br ((0:Int)<=0&&0<(↑(rwW sRooms (sR ln)).n:Int)) (br ((0:Int)<=0&&0<(↑(rwW sRooms (sR ln)).n:Int)) (br ((0:Int)<=0&&0<(↑(rwW sRooms (sR ln)).n:Int)) (br ((0:Int)<=0&&0<(↑(rwW sRooms (sR ln)).n:Int)) (br ((0:Int)<=0&&0<(↑(rwW sRooms (sR ln)).n:Int)) (br ((0:Int)<=0&&0<(↑(rwW sRooms (sR ln)).n:Int)) (K (Value.bool true) (t_rd k ca.n pi.n pc wo.n gv.n aa.n fv.n rr ((nR (winOf (rwW sRooms (sR ln)) 1 ((↑(rwW sRooms (sR ln)).n:Int).toNat-1))).n) lpo lpn ld ba.n pa.n cl ca pi wo gv aa fv (nR (winOf (rwW sRooms (sR ln)) 1 ((↑(rwW sRooms (sR ln)).n:Int).toNat-1))) lp ba pa)) none) none) none) none) none) none)) none) none) none) none) none) (none):=by kernel_rfl
theorem wPrices(sR:ByteArray->Row)(nC:Row->Bool)(nR:Row->Row)(nB qC:Row->Bool)(qR:Row->Row)(qB:Row->Bool)(K:Value->St->OD)(ln:ByteArray)(k:Int)(ca pi:Row)(pc:Int)(wo gv aa fv:Row)(rr:Int)(lr lp:Row)(lpo lpn:Nat)(ld:Int)(ba pa:Row)(cl:Int):inl (Crd sR nC nR nB qC qR qB sPrices) 8 62 [bx1,.string ln] {τ:=[bx0,bx1],saved:=[],mem:=rdM k ca pi pc wo gv aa fv rr lr lp lpo lpn ld ba pa cl} (fun v s=>K v (norm0 [0,1] s))=br (ln.size<4294967281&&{data:={toList:=[32]:Array UInt8}:ByteArray}.toList==sSpc.toList&&((sR ln).S 0 0).toList==sPrices.toList) (br ((0:Int)<=0&&0<(↑(rwW sPrices (sR ln)).n:Int)) (br ((0:Int)<=0&&0<(↑(rwW sPrices (sR ln)).n:Int)) (br (0<=(↑(rwW sPrices (sR ln)).n:Int)&&(↑(rwW sPrices (sR ln)).n:Int)<=(↑(rwW sPrices (sR ln)).n:Int)) (br (0<=1&&1<=(↑(↑(rwW sPrices (sR ln)).n:Int).toNat:Int)) (br (nC (winOf (rwW sPrices (sR ln)) 1 ((↑(rwW sPrices (sR ln)).n:Int).toNat-1))) (br (!nB (winOf (rwW sPrices (sR ln)) 1 ((↑(rwW sPrices (sR ln)).n:Int).toNat-1))) (K (Value.bool false) (t_rd k ca.n pi.n pc wo.n gv.n aa.n fv.n rr lr.n lpo lpn ld ba.n pa.n cl ca pi wo gv aa fv lr lp ba pa)) (br ((0:Int)<=0&&0<(↑(rwW sPrices (sR ln)).n:Int)) (br ((0:Int)<=0&&0<(↑(rwW sPrices (sR ln)).n:Int)) (br ((0:Int)<=0&&0<(↑(rwW sPrices (sR ln)).n:Int)) (br ((0:Int)<=0&&0<(↑(rwW sPrices (sR ln)).n:Int)) (br ((0:Int)<=0&&0<(↑(rwW sPrices (sR ln)).n:Int)) (br ((0:Int)<=0&&0<(↑(rwW sPrices (sR ln)).n:Int)) (br ((0:Int)<=0&&0<(↑(rwW sPrices (sR ln)).n:Int)) (br ((↑(nR (winOf (rwW sPrices (sR ln)) (0+1) ((↑(rwW sPrices (sR ln)).n:Int).toNat-1))).n:Int)>0) (br ((0:Int)<=0&&0<(↑(nR (winOf (rwW sPrices (sR ln)) (0+1) ((↑(rwW sPrices (sR ln)).n:Int).toNat-1))).n:Int)) (br (0<=(↑(nR (winOf (rwW sPrices (sR ln)) (0+1) ((↑(rwW sPrices (sR ln)).n:Int).toNat-1))).n:Int)&&(↑(nR (winOf (rwW sPrices (sR ln)) (0+1) ((↑(rwW sPrices (sR ln)).n:Int).toNat-1))).n:Int)<=(↑(nR (winOf (rwW sPrices (sR ln)) (0+1) ((↑(rwW sPrices (sR ln)).n:Int).toNat-1))).n:Int)) (br (0<=1&&1<=(↑(↑(nR (winOf (rwW sPrices (sR ln)) (0+1) ((↑(rwW sPrices (sR ln)).n:Int).toNat-1))).n:Int).toNat:Int)) (K (Value.bool true) (t_rd k ca.n pi.n pc wo.n gv.n aa.n fv.n rr lr.n 1 ((↑(nR (winOf (rwW sPrices (sR ln)) 1 ((↑(rwW sPrices (sR ln)).n:Int).toNat-1))).n:Int).toNat-1) ((nR (winOf (rwW sPrices (sR ln)) 1 ((↑(rwW sPrices (sR ln)).n:Int).toNat-1))).I 0 0) ba.n pa.n cl ca pi wo gv aa fv lr (nR (winOf (rwW sPrices (sR ln)) 1 ((↑(rwW sPrices (sR ln)).n:Int).toNat-1))) ba pa)) none) none) none) (br ((0:Int)<=0&&0<(↑(rwW sPrices (sR ln)).n:Int)) (br ((0:Int)<=0&&0<(↑(rwW sPrices (sR ln)).n:Int)) (br ((0:Int)<=0&&0<(↑(rwW sPrices (sR ln)).n:Int)) (K (Value.bool false) (t_rd k ca.n pi.n pc wo.n gv.n aa.n fv.n rr lr.n lpo lpn ld ba.n pa.n cl ca pi wo gv aa fv lr lp ba pa)) none) none) none)) none) none) none) none) none) none) none)) none) none) none) none) none) (none):=by kernel_rfl
theorem wBalances(sR:ByteArray->Row)(nC:Row->Bool)(nR:Row->Row)(nB qC:Row->Bool)(qR:Row->Row)(qB:Row->Bool)(K:Value->St->OD)(ln:ByteArray)(k:Int)(ca pi:Row)(pc:Int)(wo gv aa fv:Row)(rr:Int)(lr lp:Row)(lpo lpn:Nat)(ld:Int)(ba pa:Row)(cl:Int):inl (Crd sR nC nR nB qC qR qB sBalances) 8 62 [bx1,.string ln] {τ:=[bx0,bx1],saved:=[],mem:=rdM k ca pi pc wo gv aa fv rr lr lp lpo lpn ld ba pa cl} (fun v s=>K v (norm0 [0,1] s))=br (ln.size<4294967281&&{data:={toList:=[32]:Array UInt8}:ByteArray}.toList==sSpc.toList&&((sR ln).S 0 0).toList==sBalances.toList) (br ((0:Int)<=0&&0<(↑(rwW sBalances (sR ln)).n:Int)) (br ((0:Int)<=0&&0<(↑(rwW sBalances (sR ln)).n:Int)) (br (0<=(↑(rwW sBalances (sR ln)).n:Int)&&(↑(rwW sBalances (sR ln)).n:Int)<=(↑(rwW sBalances (sR ln)).n:Int)) (br (0<=1&&1<=(↑(↑(rwW sBalances (sR ln)).n:Int).toNat:Int)) (br (nC (winOf (rwW sBalances (sR ln)) 1 ((↑(rwW sBalances (sR ln)).n:Int).toNat-1))) (br (!nB (winOf (rwW sBalances (sR ln)) 1 ((↑(rwW sBalances (sR ln)).n:Int).toNat-1))) (K (Value.bool false) (t_rd k ca.n pi.n pc wo.n gv.n aa.n fv.n rr lr.n lpo lpn ld ba.n pa.n cl ca pi wo gv aa fv lr lp ba pa)) (br ((0:Int)<=0&&0<(↑(rwW sBalances (sR ln)).n:Int)) (br ((0:Int)<=0&&0<(↑(rwW sBalances (sR ln)).n:Int)) (br ((0:Int)<=0&&0<(↑(rwW sBalances (sR ln)).n:Int)) (br ((0:Int)<=0&&0<(↑(rwW sBalances (sR ln)).n:Int)) (br ((0:Int)<=0&&0<(↑(rwW sBalances (sR ln)).n:Int)) (br ((0:Int)<=0&&0<(↑(rwW sBalances (sR ln)).n:Int)) (br ((0:Int)<=0&&0<(↑(rwW sBalances (sR ln)).n:Int)) (br ((0:Int)<=0&&0<(↑(rwW sBalances (sR ln)).n:Int)) (K (Value.bool true) (t_rd k ca.n pi.n pc wo.n gv.n aa.n fv.n rr lr.n lpo lpn ld ((nR (winOf (rwW sBalances (sR ln)) 1 ((↑(rwW sBalances (sR ln)).n:Int).toNat-1))).n) pa.n cl ca pi wo gv aa fv lr lp (nR (winOf (rwW sBalances (sR ln)) 1 ((↑(rwW sBalances (sR ln)).n:Int).toNat-1))) pa)) none) none) none) none) none) none) none) none)) none) none) none) none) none) (none):=by kernel_rfl
theorem wPay(sR:ByteArray->Row)(nC:Row->Bool)(nR:Row->Row)(nB qC:Row->Bool)(qR:Row->Row)(qB:Row->Bool)(K:Value->St->OD)(ln:ByteArray)(k:Int)(ca pi:Row)(pc:Int)(wo gv aa fv:Row)(rr:Int)(lr lp:Row)(lpo lpn:Nat)(ld:Int)(ba pa:Row)(cl:Int):inl (Crd sR nC nR nB qC qR qB sPay) 8 62 [bx1,.string ln] {τ:=[bx0,bx1],saved:=[],mem:=rdM k ca pi pc wo gv aa fv rr lr lp lpo lpn ld ba pa cl} (fun v s=>K v (norm0 [0,1] s))=br (ln.size<4294967281&&{data:={toList:=[32]:Array UInt8}:ByteArray}.toList==sSpc.toList&&((sR ln).S 0 0).toList==sPay.toList) (br ((0:Int)<=0&&0<(↑(rwW sPay (sR ln)).n:Int)) (br ((0:Int)<=0&&0<(↑(rwW sPay (sR ln)).n:Int)) (br (0<=(↑(rwW sPay (sR ln)).n:Int)&&(↑(rwW sPay (sR ln)).n:Int)<=(↑(rwW sPay (sR ln)).n:Int)) (br (0<=1&&1<=(↑(↑(rwW sPay (sR ln)).n:Int).toNat:Int)) (br (nC (winOf (rwW sPay (sR ln)) 1 ((↑(rwW sPay (sR ln)).n:Int).toNat-1))) (br (!nB (winOf (rwW sPay (sR ln)) 1 ((↑(rwW sPay (sR ln)).n:Int).toNat-1))) (K (Value.bool false) (t_rd k ca.n pi.n pc wo.n gv.n aa.n fv.n rr lr.n lpo lpn ld ba.n pa.n cl ca pi wo gv aa fv lr lp ba pa)) (br ((0:Int)<=0&&0<(↑(rwW sPay (sR ln)).n:Int)) (br ((0:Int)<=0&&0<(↑(rwW sPay (sR ln)).n:Int)) (br ((0:Int)<=0&&0<(↑(rwW sPay (sR ln)).n:Int)) (br ((0:Int)<=0&&0<(↑(rwW sPay (sR ln)).n:Int)) (br ((0:Int)<=0&&0<(↑(rwW sPay (sR ln)).n:Int)) (br ((0:Int)<=0&&0<(↑(rwW sPay (sR ln)).n:Int)) (br ((0:Int)<=0&&0<(↑(rwW sPay (sR ln)).n:Int)) (br ((0:Int)<=0&&0<(↑(rwW sPay (sR ln)).n:Int)) (br ((0:Int)<=0&&0<(↑(rwW sPay (sR ln)).n:Int)) (br ((↑(nR (winOf (rwW sPay (sR ln)) 1 ((↑(rwW sPay (sR ln)).n:Int).toNat-1))).n:Int)==3) (br ((0:Int)<=0&&0<(↑(nR (winOf (rwW sPay (sR ln)) (0+1) ((↑(rwW sPay (sR ln)).n:Int).toNat-1))).n:Int)) (br (0<=1&&1<(↑(nR (winOf (rwW sPay (sR ln)) (0+1) ((↑(rwW sPay (sR ln)).n:Int).toNat-1))).n:Int)) (br (0<=2&&2<(↑(nR (winOf (rwW sPay (sR ln)) (0+1) ((↑(rwW sPay (sR ln)).n:Int).toNat-1))).n:Int)) (br (pa.n+(winOf ((((Row.zeros 1).setI 0 0 ((nR (winOf (rwW sPay (sR ln)) (0+1) ((↑(rwW sPay (sR ln)).n:Int).toNat-1))).I (0+0) 0)).setI 0 1 ((nR (winOf (rwW sPay (sR ln)) (0+1) ((↑(rwW sPay (sR ln)).n:Int).toNat-1))).I (0+1) 0)).setI 0 2 ((nR (winOf (rwW sPay (sR ln)) (0+1) ((↑(rwW sPay (sR ln)).n:Int).toNat-1))).I (0+2) 0)) 0 1).n<=10000000000) (K (Value.bool true) (t_rd k ca.n pi.n pc wo.n gv.n aa.n fv.n rr lr.n lpo lpn ld ba.n (pa.n+1) cl ca pi wo gv aa fv lr lp ba ((winOf pa 0 pa.n).app (winOf ((((Row.zeros 1).setI 0 0 ((nR (winOf (rwW sPay (sR ln)) 1 ((↑(rwW sPay (sR ln)).n:Int).toNat-1))).I 0 0)).setI 0 1 ((nR (winOf (rwW sPay (sR ln)) 1 ((↑(rwW sPay (sR ln)).n:Int).toNat-1))).I 1 0)).setI 0 2 ((nR (winOf (rwW sPay (sR ln)) 1 ((↑(rwW sPay (sR ln)).n:Int).toNat-1))).I 2 0)) 0 1)))) none) none) none) none) (br ((0:Int)<=0&&0<(↑(rwW sPay (sR ln)).n:Int)) (K (Value.bool false) (t_rd k ca.n pi.n pc wo.n gv.n aa.n fv.n rr lr.n lpo lpn ld ba.n pa.n cl ca pi wo gv aa fv lr lp ba pa)) none)) none) none) none) none) none) none) none) none) none)) none) none) none) none) none) (none):=by kernel_rfl
theorem wClaims(sR:ByteArray->Row)(nC:Row->Bool)(nR:Row->Row)(nB qC:Row->Bool)(qR:Row->Row)(qB:Row->Bool)(K:Value->St->OD)(ln:ByteArray)(k:Int)(ca pi:Row)(pc:Int)(wo gv aa fv:Row)(rr:Int)(lr lp:Row)(lpo lpn:Nat)(ld:Int)(ba pa:Row)(cl:Int):inl (Crd sR nC nR nB qC qR qB sClaims) 8 62 [bx1,.string ln] {τ:=[bx0,bx1],saved:=[],mem:=rdM k ca pi pc wo gv aa fv rr lr lp lpo lpn ld ba pa cl} (fun v s=>K v (norm0 [0,1] s))=br (ln.size<4294967281&&{data:={toList:=[32]:Array UInt8}:ByteArray}.toList==sSpc.toList&&((sR ln).S 0 0).toList==sClaims.toList) (br ((0:Int)<=0&&0<(↑(rwW sClaims (sR ln)).n:Int)) (br ((0:Int)<=0&&0<(↑(rwW sClaims (sR ln)).n:Int)) (br (0<=(↑(rwW sClaims (sR ln)).n:Int)&&(↑(rwW sClaims (sR ln)).n:Int)<=(↑(rwW sClaims (sR ln)).n:Int)) (br (0<=1&&1<=(↑(↑(rwW sClaims (sR ln)).n:Int).toNat:Int)) (br (nC (winOf (rwW sClaims (sR ln)) 1 ((↑(rwW sClaims (sR ln)).n:Int).toNat-1))) (br (!nB (winOf (rwW sClaims (sR ln)) 1 ((↑(rwW sClaims (sR ln)).n:Int).toNat-1))) (K (Value.bool false) (t_rd k ca.n pi.n pc wo.n gv.n aa.n fv.n rr lr.n lpo lpn ld ba.n pa.n cl ca pi wo gv aa fv lr lp ba pa)) (br ((0:Int)<=0&&0<(↑(rwW sClaims (sR ln)).n:Int)) (br ((0:Int)<=0&&0<(↑(rwW sClaims (sR ln)).n:Int)) (br ((0:Int)<=0&&0<(↑(rwW sClaims (sR ln)).n:Int)) (br ((0:Int)<=0&&0<(↑(rwW sClaims (sR ln)).n:Int)) (br ((0:Int)<=0&&0<(↑(rwW sClaims (sR ln)).n:Int)) (br ((0:Int)<=0&&0<(↑(rwW sClaims (sR ln)).n:Int)) (br ((0:Int)<=0&&0<(↑(rwW sClaims (sR ln)).n:Int)) (br ((0:Int)<=0&&0<(↑(rwW sClaims (sR ln)).n:Int)) (br ((0:Int)<=0&&0<(↑(rwW sClaims (sR ln)).n:Int)) (br ((0:Int)<=0&&0<(↑(rwW sClaims (sR ln)).n:Int)) (br ((↑(nR (winOf (rwW sClaims (sR ln)) 1 ((↑(rwW sClaims (sR ln)).n:Int).toNat-1))).n:Int)==1) (br ((0:Int)<=0&&0<(↑(nR (winOf (rwW sClaims (sR ln)) (0+1) ((↑(rwW sClaims (sR ln)).n:Int).toNat-1))).n:Int)) (br ((nR (winOf (rwW sClaims (sR ln)) (0+1) ((↑(rwW sClaims (sR ln)).n:Int).toNat-1))).I (0+0) 0>=0) (br ((0:Int)<=0&&0<(↑(nR (winOf (rwW sClaims (sR ln)) (0+1) ((↑(rwW sClaims (sR ln)).n:Int).toNat-1))).n:Int)) (br ((nR (winOf (rwW sClaims (sR ln)) (0+1) ((↑(rwW sClaims (sR ln)).n:Int).toNat-1))).I (0+0) 0<=31) (br (k==1) (br ((0:Int)<=0&&0<(↑(nR (winOf (rwW sClaims (sR ln)) (0+1) ((↑(rwW sClaims (sR ln)).n:Int).toNat-1))).n:Int)) (K (Value.bool true) (t_rd k ca.n pi.n (IntKind.u8.wrap ((nR (winOf (rwW sClaims (sR ln)) 1 ((↑(rwW sClaims (sR ln)).n:Int).toNat-1))).I 0 0)) wo.n gv.n aa.n fv.n rr lr.n lpo lpn ld ba.n pa.n cl ca pi wo gv aa fv lr lp ba pa)) none) (br ((0:Int)<=0&&0<(↑(nR (winOf (rwW sClaims (sR ln)) (0+1) ((↑(rwW sClaims (sR ln)).n:Int).toNat-1))).n:Int)) (K (Value.bool true) (t_rd k ca.n pi.n pc wo.n gv.n aa.n fv.n rr lr.n lpo lpn ld ba.n pa.n (IntKind.u8.wrap ((nR (winOf (rwW sClaims (sR ln)) 1 ((↑(rwW sClaims (sR ln)).n:Int).toNat-1))).I 0 0)) ca pi wo gv aa fv lr lp ba pa)) none)) (K (Value.bool false) (t_rd k ca.n pi.n pc wo.n gv.n aa.n fv.n rr lr.n lpo lpn ld ba.n pa.n cl ca pi wo gv aa fv lr lp ba pa))) none) (K (Value.bool false) (t_rd k ca.n pi.n pc wo.n gv.n aa.n fv.n rr lr.n lpo lpn ld ba.n pa.n cl ca pi wo gv aa fv lr lp ba pa))) none) (K (Value.bool false) (t_rd k ca.n pi.n pc wo.n gv.n aa.n fv.n rr lr.n lpo lpn ld ba.n pa.n cl ca pi wo gv aa fv lr lp ba pa))) none) none) none) none) none) none) none) none) none) none)) none) none) none) none) none) (none):=by kernel_rfl
theorem wWorth(sR:ByteArray->Row)(nC:Row->Bool)(nR:Row->Row)(nB qC:Row->Bool)(qR:Row->Row)(qB:Row->Bool)(K:Value->St->OD)(ln:ByteArray)(k:Int)(ca pi:Row)(pc:Int)(wo gv aa fv:Row)(rr:Int)(lr lp:Row)(lpo lpn:Nat)(ld:Int)(ba pa:Row)(cl:Int):inl (Crd sR nC nR nB qC qR qB sWorth) 8 62 [bx1,.string ln] {τ:=[bx0,bx1],saved:=[],mem:=rdM k ca pi pc wo gv aa fv rr lr lp lpo lpn ld ba pa cl} (fun v s=>K v (norm0 [0,1] s))=br (ln.size<4294967281&&{data:={toList:=[32]:Array UInt8}:ByteArray}.toList==sSpc.toList&&((sR ln).S 0 0).toList==sWorth.toList) (br ((0:Int)<=0&&0<(↑(rwW sWorth (sR ln)).n:Int)) (br ((0:Int)<=0&&0<(↑(rwW sWorth (sR ln)).n:Int)) (br ((0:Int)<=0&&0<(↑(rwW sWorth (sR ln)).n:Int)) (br (0<=(↑(rwW sWorth (sR ln)).n:Int)&&(↑(rwW sWorth (sR ln)).n:Int)<=(↑(rwW sWorth (sR ln)).n:Int)) (br (0<=1&&1<=(↑(↑(rwW sWorth (sR ln)).n:Int).toNat:Int)) (br (qC (winOf (rwW sWorth (sR ln)) 1 ((↑(rwW sWorth (sR ln)).n:Int).toNat-1))) (br (!qB (winOf (rwW sWorth (sR ln)) 1 ((↑(rwW sWorth (sR ln)).n:Int).toNat-1))) (K (Value.bool false) (t_rd k ca.n pi.n pc wo.n gv.n aa.n fv.n rr lr.n lpo lpn ld ba.n pa.n cl ca pi wo gv aa fv lr lp ba pa)) (br (wo.n+1<=10000000000) (K (Value.bool true) (t_rd k ca.n pi.n pc (wo.n+1) gv.n aa.n fv.n rr lr.n lpo lpn ld ba.n pa.n cl ca pi ((winOf wo 0 wo.n).app (winOf ((Row.zeros 1).setR 0 0 (winOf (qR (winOf (rwW sWorth (sR ln)) 1 ((↑(rwW sWorth (sR ln)).n:Int).toNat-1))) 0 (qR (winOf (rwW sWorth (sR ln)) 1 ((↑(rwW sWorth (sR ln)).n:Int).toNat-1))).n)) 0 1)) gv aa fv lr lp ba pa)) none)) none) none) none) none) none) none) (none):=by kernel_rfl
theorem wNone(sR:ByteArray->Row)(nC:Row->Bool)(nR:Row->Row)(nB qC:Row->Bool)(qR:Row->Row)(qB:Row->Bool)(K:Value->St->OD)(ln:ByteArray)(k:Int)(ca pi:Row)(pc:Int)(wo gv aa fv:Row)(rr:Int)(lr lp:Row)(lpo lpn:Nat)(ld:Int)(ba pa:Row)(cl:Int):inl (Cno sR nC nR nB qC qR qB) 8 62 [bx1,.string ln] {τ:=[bx0,bx1],saved:=[],mem:=rdM k ca pi pc wo gv aa fv rr lr lp lpo lpn ld ba pa cl} (fun v s=>K v (norm0 [0,1] s))=br (ln.size<4294967281&&{data:={toList:=[32]:Array UInt8}:ByteArray}.toList==sSpc.toList) (br ((0:Int)<=0&&0<(↑(sR ln).n:Int)) (br (((sR ln).S 0 0).toList=={data:={toList:=[112,105,101,99,101]:Array UInt8}:ByteArray}.toList) none (br ((0:Int)<=0&&0<(↑(sR ln).n:Int)) (br (((sR ln).S 0 0).toList=={data:={toList:=[119,111,114,116,104]:Array UInt8}:ByteArray}.toList) none (br (0<=(↑(sR ln).n:Int)&&(↑(sR ln).n:Int)<=(↑(sR ln).n:Int)) (br (0<=1&&1<=(↑(↑(sR ln).n:Int).toNat:Int)) (br (nC (winOf (sR ln) 1 ((↑(sR ln).n:Int).toNat-1))) (br (!nB (winOf (sR ln) 1 ((↑(sR ln).n:Int).toNat-1))) (K (Value.bool false) (t_rd k ca.n pi.n pc wo.n gv.n aa.n fv.n rr lr.n lpo lpn ld ba.n pa.n cl ca pi wo gv aa fv lr lp ba pa)) (br ((0:Int)<=0&&0<(↑(sR ln).n:Int)) (br (((sR ln).S 0 0).toList=={data:={toList:=[99,97,107,101]:Array UInt8}:ByteArray}.toList) none (br ((0:Int)<=0&&0<(↑(sR ln).n:Int)) (br (((sR ln).S 0 0).toList=={data:={toList:=[118,97,108,117,101,115]:Array UInt8}:ByteArray}.toList) none (br ((0:Int)<=0&&0<(↑(sR ln).n:Int)) (br (((sR ln).S 0 0).toList=={data:={toList:=[118,97,108,117,101,115]:Array UInt8}:ByteArray}.toList) none (br ((0:Int)<=0&&0<(↑(sR ln).n:Int)) (br (((sR ln).S 0 0).toList=={data:={toList:=[103,105,118,101]:Array UInt8}:ByteArray}.toList) none (br ((0:Int)<=0&&0<(↑(sR ln).n:Int)) (br (((sR ln).S 0 0).toList=={data:={toList:=[114,101,110,116]:Array UInt8}:ByteArray}.toList) none (br ((0:Int)<=0&&0<(↑(sR ln).n:Int)) (br (((sR ln).S 0 0).toList=={data:={toList:=[114,111,111,109,115]:Array UInt8}:ByteArray}.toList) none (br ((0:Int)<=0&&0<(↑(sR ln).n:Int)) (br (((sR ln).S 0 0).toList=={data:={toList:=[112,114,105,99,101,115]:Array UInt8}:ByteArray}.toList) none (br ((0:Int)<=0&&0<(↑(sR ln).n:Int)) (br (((sR ln).S 0 0).toList=={data:={toList:=[98,97,108,97,110,99,101,115]:Array UInt8}:ByteArray}.toList) none (br ((0:Int)<=0&&0<(↑(sR ln).n:Int)) (br (((sR ln).S 0 0).toList=={data:={toList:=[112,97,121]:Array UInt8}:ByteArray}.toList) none (br ((0:Int)<=0&&0<(↑(sR ln).n:Int)) (br (((sR ln).S 0 0).toList=={data:={toList:=[99,108,97,105,109,115]:Array UInt8}:ByteArray}.toList) none (K (Value.bool false) (t_rd k ca.n pi.n pc wo.n gv.n aa.n fv.n rr lr.n lpo lpn ld ba.n pa.n cl ca pi wo gv aa fv lr lp ba pa))) none)) none)) none)) none)) none)) none)) none)) none)) none)) none)) none) none) none)) none)) none) (none):=by kernel_rfl
set_option maxRecDepth 100000
def psS(r:Row)(a b c d:Int):Row:=(winOf r 0 r.n).app (winOf (((((Row.zeros 1).setI 0 0 a).setI 0 1 b).setI 0 2 c).setI 0 3 d) 0 1)
def p_lrr:PSt:={τ:=[.v (.c (.pointer (some ⟨0,0,some 0⟩)))]++pu 6++[.v (.slw 1)]++pu 1++[.v (.sl 2)]++pu 51,saved:=[[.v (.c (.pointer (some ⟨0,0,some 0⟩))),.v (.str)]++pu 2++[.v (.c (.bool false)),.v (.sl 3)]++pu 3++[.v (.str),.v (.sl 3),.v (.sl 3),.v (.c (.pointer (some ⟨3,0,some 0⟩))),.v (.str),.v (.bool),.v (.c (.bool true))]++pu 4++[.v (.c (.bool true)),.v (.c (.pointer (some ⟨0,0,some 0⟩))),.v (.sl 3),.v (.c (.pointer (some ⟨3,0,some 0⟩))),.v (.str),.v (.sl 3),.v (.slw 3)]++pu 228,[.v (.c (.pointer (some ⟨4,0,some 0⟩))),.v (.c (.pointer (some ⟨0,0,some 0⟩)))]],mem:=[.box [.v (.int .u8),.v (.sl 5),.v (.sl 6),.v (.int .u8),.v (.sl 7),.v (.sl 8),.v (.sl 9),.v (.sl 10),.v (.int .i64),.v (.sl 11),.v (.slw 12),.v (.int .i64),.v (.sl 13),.v (.sl 14),.v (.int .u8)],.row [.int .i64,.int .i64] true,.row [.int .i64,.int .i64,.int .i64,.int .i64] true,.row [.str] true,.box [.v (.c (.int .u8 0)),.v (.c (.slice none 0 0)),.v (.c (.slice none 0 0)),.v (.c (.int .u8 0)),.v (.c (.slice none 0 0)),.v (.c (.slice none 0 0)),.v (.c (.slice none 0 0)),.v (.c (.slice none 0 0)),.v (.c (.int .i64 0)),.v (.c (.slice none 0 0)),.v (.c (.slice none 0 0)),.v (.c (.int .i64 0)),.v (.c (.slice none 0 0)),.v (.c (.slice none 0 0)),.v (.c (.int .u8 0))],.deep [.int .i64,.slice [.int .i64],.slice [.int .i64]],.deep [.slice [.int .i64,.int .i64,.int .i64,.int .i64]],.deep [.slice [.int .i64,.int .i64]],.deep [.slice [.int .i64]],.row [.int .i64] true,.deep [.slice [.int .i64]],.row [.int .i64] true,.row [.int .i64] true,.row [.int .i64] true,.row [.int .i64,.int .i64,.int .i64] true]}
structure A_lrr where
 off:Nat
 wl:Nat
 xn:Nat
 ln:ByteArray
 wn:Nat
 ln_2:ByteArray
 wn_2:Nat
 wn_3:Nat
 w0:ByteArray
 b1:Bool
 wn_4:Nat
 w0_2:ByteArray
 wn_5:Nat
 o1:Nat
 wm:Nat
 k:Int
 can:Nat
 pin:Nat
 pc:Int
 won:Nat
 gvn:Nat
 aan:Nat
 fvn:Nat
 rr:Int
 lrn:Nat
 lpo:Nat
 lpn:Nat
 ld:Int
 ban:Nat
 pan:Nat
 cl:Int
 qq:Row
 sr:Row
 wr:Row
 ca:Row
 pi:Row
 wo:Row
 gv:Row
 aa:Row
 fv:Row
 lr:Row
 lp:Row
 ba:Row
 pa:Row
def d_lrr(its:List It):Option A_lrr:=match its with|(.n off::.n wl::.n xn::.s ln::.n wn::.s ln_2::.n wn_2::.n wn_3::.s w0::.b b1::.n wn_4::.s w0_2::.n wn_5::.n o1::.n wm::.i k::.n can::.n pin::.i pc::.n won::.n gvn::.n aan::.n fvn::.i rr::.n lrn::.n lpo::.n lpn::.i ld::.n ban::.n pan::.i cl::.r qq::.r sr::.r wr::.r ca::.r pi::.r wo::.r gv::.r aa::.r fv::.r lr::.r lp::.r ba::.r pa::[])=>some ⟨off,wl,xn,ln,wn,ln_2,wn_2,wn_3,w0,b1,wn_4,w0_2,wn_5,o1,wm,k,can,pin,pc,won,gvn,aan,fvn,rr,lrn,lpo,lpn,ld,ban,pan,cl,qq,sr,wr,ca,pi,wo,gv,aa,fv,lr,lp,ba,pa⟩|_=>none
def c_lrr(x:A_lrr):Bool:=x.ln_2=x.ln∧x.wn_2=x.wn∧x.wn_3=x.wn∧x.wn_4=x.wn∧x.w0_2=x.w0∧x.wn_5=x.wn∧x.off=0∧x.wl=x.qq.n∧x.xn=x.sr.n∧x.qq.n<=1000000∧x.sr.n=0
def c_lrr_iff{x:A_lrr}:=@ciff _ c_lrr _ _ rfl x
def lrr:FoldL A_lrr (Row):=⟨126,8,[0,7,9,8039080009],[0,6,7,9],p_lrr,d_lrr,fun x j a=>(.n (2*j)::.n (x.qq.n-2*j)::.n (a.n)::.s x.ln::.n x.wn::.s x.ln::.n x.wn::.n x.wn::.s x.w0::.b x.b1::.n x.wn::.s x.w0::.n x.wn::.n x.o1::.n x.wm::.i x.k::.n x.can::.n x.pin::.i x.pc::.n x.won::.n x.gvn::.n x.aan::.n x.fvn::.i x.rr::.n x.lrn::.n x.lpo::.n x.lpn::.i x.ld::.n x.ban::.n x.pan::.i x.cl::.r x.qq::.r (a)::.r x.wr::.r x.ca::.r x.pi::.r x.wo::.r x.gv::.r x.aa::.r x.fv::.r x.lr::.r x.lp::.r x.ba::.r x.pa::[]),fun x=>x.qq.n/2,c_lrr,fun x=>x.sr,fun x j a=>psS a (x.qq.I (2*j) 0) (x.qq.I (2*j) 1) (x.qq.I (2*j+1) 0) (x.qq.I (2*j+1) 1),fun x a K=>K (.exit 0) (bst p_lrr (.n (2*(x.qq.n/2))::.n (x.qq.n-2*(x.qq.n/2))::.n (a.n)::.s x.ln::.n x.wn::.s x.ln::.n x.wn::.n x.wn::.s x.w0::.b x.b1::.n x.wn::.s x.w0::.n x.wn::.n x.o1::.n x.wm::.i x.k::.n x.can::.n x.pin::.i x.pc::.n x.won::.n x.gvn::.n x.aan::.n x.fvn::.i x.rr::.n x.lrn::.n x.lpo::.n x.lpn::.i x.ld::.n x.ban::.n x.pan::.i x.cl::.r x.qq::.r (a)::.r x.wr::.r x.ca::.r x.pi::.r x.wo::.r x.gv::.r x.aa::.r x.fv::.r x.lr::.r x.lp::.r x.ba::.r x.pa::[]))⟩
noncomputable def Cpi(sR:ByteArray->Row)(nC:Row->Bool)(nR:Row->Row)(nB qC:Row->Bool)(qR:Row->Row)(qB:Row->Bool)(w:ByteArray):Cx:=mkCx Tryz.prog fns [(125,FspW sR w),(127,FinV nC nR nB),(161,FenV qC qR qB)] [lrr.C]
theorem r_lrr(sR:ByteArray->Row)(nC:Row->Bool)(nR:Row->Row)(nB qC:Row->Bool)(qR:Row->Row)(qB:Row->Bool)(ww:ByteArray)(R:St->OD)(K:X->St->OD)(q off wl xn:Nat)(ln:ByteArray)(wn:Nat)(ln_2:ByteArray)(wn_2 wn_3:Nat)(w0:ByteArray)(b1:Bool)(wn_4:Nat)(w0_2:ByteArray)(wn_5 o1 wm:Nat)(k:Int)(can pin:Nat)(pc:Int)(won gvn aan fvn:Nat)(rr:Int)(lrn lpo lpn:Nat)(ld:Int)(ban pan:Nat)(cl:Int)(qq sr wr ca pi wo gv aa fv lr lp ba pa:Row):bodyOf (Cpi sR nC nR nB qC qR qB ww) 126 8 q (bst p_lrr (.n off::.n wl::.n xn::.s ln::.n wn::.s ln_2::.n wn_2::.n wn_3::.s w0::.b b1::.n wn_4::.s w0_2::.n wn_5::.n o1::.n wm::.i k::.n can::.n pin::.i pc::.n won::.n gvn::.n aan::.n fvn::.i rr::.n lrn::.n lpo::.n lpn::.i ld::.n ban::.n pan::.i cl::.r qq::.r sr::.r wr::.r ca::.r pi::.r wo::.r gv::.r aa::.r fv::.r lr::.r lp::.r ba::.r pa::[])) (rnd [0,7,9,8039080009] (some [0,6,7,9]) R K)=br ((wl:Int)>=2) (br ((0:Int)<=0&&0<(wl:Int)) (br (0<=1&&1<(wl:Int)) (br (xn+(winOf (((((Row.zeros 1).setI 0 0 (qq.I (off+0) 0)).setI 0 1 (qq.I (off+0) 1)).setI 0 2 (qq.I (off+1) 0)).setI 0 (0+1+1+1) (qq.I (off+1) 1)) 0 1).n<=10000000000) (br (0<=(wl:Int)&&(wl:Int)<=(wl:Int)) (br (0<=2&&2<=(↑(wl:Int).toNat:Int)) (R (bst p_lrr (.n (off+2)::.n ((wl:Int).toNat-2)::.n (xn+1)::.s (ln)::.n (wn)::.s (ln_2)::.n (wn_2)::.n (wn_3)::.s (w0)::.b (b1)::.n (wn_4)::.s (w0_2)::.n (wn_5)::.n (o1)::.n (wm)::.i (k)::.n (can)::.n (pin)::.i (pc)::.n (won)::.n (gvn)::.n (aan)::.n (fvn)::.i (rr)::.n (lrn)::.n (lpo)::.n (lpn)::.i (ld)::.n (ban)::.n (pan)::.i (cl)::.r (qq)::.r ((winOf sr 0 xn).app (winOf (((((Row.zeros 1).setI 0 0 (qq.I (off+0) 0)).setI 0 1 (qq.I (off+0) 1)).setI 0 2 (qq.I (off+1) 0)).setI 0 3 (qq.I (off+1) 1)) 0 1))::.r (wr)::.r (ca)::.r (pi)::.r (wo)::.r (gv)::.r (aa)::.r (fv)::.r (lr)::.r (lp)::.r (ba)::.r (pa)::[]))) none) none) none) none) none) (K (.exit 0) ⟨[.pointer (some ⟨0,0,some 0⟩)]++us 6++[S_ 1 off wl]++us 1++[S_ 2 0 xn]++us 51,[[.pointer (some ⟨0,0,some 0⟩),.string ln]++us 2++[.bool false,S_ 3 0 wn]++us 3++[.string ln_2,S_ 3 0 wn_2,S_ 3 0 wn_3,.pointer (some ⟨3,0,some 0⟩),.string w0,.bool b1,.bool true]++us 4++[.bool true,.pointer (some ⟨0,0,some 0⟩),S_ 3 0 wn_4,.pointer (some ⟨3,0,some 0⟩),.string w0_2,S_ 3 0 wn_5,S_ 3 o1 wm]++us 228,[.pointer (some ⟨4,0,some 0⟩),.pointer (some ⟨0,0,some 0⟩)]],[some (.box [.int .u8 k,S_ 5 0 can,S_ 6 0 pin,.int .u8 pc,S_ 7 0 won,S_ 8 0 gvn,S_ 9 0 aan,S_ 10 0 fvn,i64 rr,S_ 11 0 lrn,S_ 12 lpo lpn,i64 ld,S_ 13 0 ban,S_ 14 0 pan,.int .u8 cl]),some (.row [.int .i64,.int .i64] true qq),some (.row [.int .i64,.int .i64,.int .i64,.int .i64] true sr),some (.row [.str] true wr),some (.box [.int .u8 0,.slice none 0 0,.slice none 0 0,.int .u8 0,.slice none 0 0,.slice none 0 0,.slice none 0 0,.slice none 0 0,i64 0,.slice none 0 0,.slice none 0 0,i64 0,.slice none 0 0,.slice none 0 0,.int .u8 0]),some (.deep [.int .i64,.slice [.int .i64],.slice [.int .i64]] ca none),some (.deep [.slice [.int .i64,.int .i64,.int .i64,.int .i64]] pi none),some (.deep [.slice [.int .i64,.int .i64]] wo none),some (.deep [.slice [.int .i64]] gv none),some (.row [.int .i64] true aa),some (.deep [.slice [.int .i64]] fv none),some (.row [.int .i64] true lr),some (.row [.int .i64] true lp),some (.row [.int .i64] true ba),some (.row [.int .i64,.int .i64,.int .i64] true pa)]⟩):=by kernel_rfl
theorem ok_lrr(sR:ByteArray->Row)(nC:Row->Bool)(nR:Row->Row)(nB qC:Row->Bool)(qR:Row->Row)(qB:Row->Bool)(ww:ByteArray):LoopOk (Cpi sR nC nR nB qC qR qB ww) lrr.C:=lrr.ok (fun x j a=>a.n=j) (by kernel_rfl)
 (fun its x h hc=>by
  replace h:d_lrr its=some x:=h;unfold d_lrr at h;split at h
  ·cases h;obtain⟨h1,h2,h3,h4,h5,h6,h7,h8,h9,h10,h11⟩:=c_lrr_iff.1 hc;dsimp only at h1 h2 h3 h4 h5 h6 h7 h8 h9;subst h1 h2 h3 h4 h5 h6 h7 h8 h9;rfl
  ·cases h)
 (fun x hc=>by have:=c_lrr_iff.1 hc;show x.qq.n/2<18446744073709551616;omega)
 (fun x hc=>by
  exact(c_lrr_iff.1 hc).2.2.2.2.2.2.2.2.2.2)
 (fun x j a hc hi hI=>by
  replace hI:a.n=j:=hI;show a.n+1=j+1;omega)
 (fun q ⟨off0,wl0,xn0,ln,wn,ln_2,wn_2,wn_3,w0,b1,wn_4,w0_2,wn_5,o1,wm,k,can,pin,pc,won,gvn,aan,fvn,rr,lrn,lpo,lpn,ld,ban,pan,cl,qq,sr0,wr,ca,pi,wo,gv,aa,fv,lr,lp,ba,pa⟩ j a hc hi hI R K=>by
  obtain⟨h1,h2,h3,h4,h5,h6,h7,h8,h9,h10,h11⟩:=c_lrr_iff.1 hc;dsimp only at*
  replace hi:j<qq.n/2:=hi;refine(r_lrr sR nC nR nB qC qR qB ww R K q ((2*j)) ((qq.n-2*j)) ((a.n)) ln wn ln wn wn w0 b1 wn w0 wn o1 wm k can pin pc won gvn aan fvn rr lrn lpo lpn ld ban pan cl qq ((a)) wr ca pi wo gv aa fv lr lp ba pa).trans ?_;replace hI:a.n=j:=hI;have hw:2<=qq.n-2*j:=by omega
  refine br_t (A4 (by omega)) (br_t (by simp only[A2,A3];omega) (br_t (by simp only[A2,A3];omega) (br_t (A4 (by rw[winOf_n];omega)) (br_t (by simp only[A2,A3];omega) (br_t (by simp only[A2,A3];omega) ?_)))));rfl)
 (fun q ⟨off0,wl0,xn0,ln,wn,ln_2,wn_2,wn_3,w0,b1,wn_4,w0_2,wn_5,o1,wm,k,can,pin,pc,won,gvn,aan,fvn,rr,lrn,lpo,lpn,ld,ban,pan,cl,qq,sr0,wr,ca,pi,wo,gv,aa,fv,lr,lp,ba,pa⟩ a hc hI R K=>by
  obtain⟨h1,h2,h3,h4,h5,h6,h7,h8,h9,h10,h11⟩:=c_lrr_iff.1 hc;dsimp only at*
  refine(r_lrr sR nC nR nB qC qR qB ww R K q ((2*(qq.n/2))) ((qq.n-2*(qq.n/2))) ((a.n)) ln wn ln wn wn w0 b1 wn w0 wn o1 wm k can pin pc won gvn aan fvn rr lrn lpo lpn ld ban pan cl qq ((a)) wr ca pi wo gv aa fv lr lp ba pa).trans ?_;exact br_f (AB (by omega)) rfl)
theorem wPiece(sR:ByteArray->Row)(nC:Row->Bool)(nR:Row->Row)(nB qC:Row->Bool)(qR:Row->Row)(qB:Row->Bool)(K:Value->St->OD)(ln:ByteArray)(k:Int)(ca pi:Row)(pc:Int)(wo gv aa fv:Row)(rr:Int)(lr lp:Row)(lpo lpn:Nat)(ld:Int)(ba pa:Row)(cl:Int):inl (Cpi sR nC nR nB qC qR qB sPiece) 8 62 [bx1,.string ln] {τ:=[bx0,bx1],saved:=[],mem:=rdM k ca pi pc wo gv aa fv rr lr lp lpo lpn ld ba pa cl} (fun v s=>K v (norm0 [0,1] s))=br (ln.size<4294967281&&{data:={toList:=[32]:Array UInt8}:ByteArray}.toList==sSpc.toList&&((sR ln).S 0 0).toList==sPiece.toList) (br ((0:Int)<=0&&0<(↑(rwW sPiece (sR ln)).n:Int)) (br ((0:Int)<=0&&0<(↑(rwW sPiece (sR ln)).n:Int)) (br (0<=(↑(rwW sPiece (sR ln)).n:Int)&&(↑(rwW sPiece (sR ln)).n:Int)<=(↑(rwW sPiece (sR ln)).n:Int)) (br (0<=1&&1<=(↑(↑(rwW sPiece (sR ln)).n:Int).toNat:Int)) (br (qC (winOf (rwW sPiece (sR ln)) 1 ((↑(rwW sPiece (sR ln)).n:Int).toNat-1))) (br (!qB (winOf (rwW sPiece (sR ln)) 1 ((↑(rwW sPiece (sR ln)).n:Int).toNat-1))) (K (Value.bool false) (t_rd k ca.n pi.n pc wo.n gv.n aa.n fv.n rr lr.n lpo lpn ld ba.n pa.n cl ca pi wo gv aa fv lr lp ba pa)) (br (c_lrr (⟨0,(qR (winOf (rwW sPiece (sR ln)) 1 ((↑(rwW sPiece (sR ln)).n:Int).toNat-1))).n,0,ln,(rwW sPiece (sR ln)).n,ln,(rwW sPiece (sR ln)).n,(rwW sPiece (sR ln)).n,(rwW sPiece (sR ln)).S 0 0,((rwW sPiece (sR ln)).S 0 0).toList=={data:={toList:=[112,105,101,99,101]:Array UInt8}:ByteArray}.toList,(rwW sPiece (sR ln)).n,(rwW sPiece (sR ln)).S 0 0,(rwW sPiece (sR ln)).n,1,(↑(rwW sPiece (sR ln)).n:Int).toNat-1,k,ca.n,pi.n,pc,wo.n,gv.n,aa.n,fv.n,rr,lr.n,lpo,lpn,ld,ba.n,pa.n,cl,qR (winOf (rwW sPiece (sR ln)) 1 ((↑(rwW sPiece (sR ln)).n:Int).toNat-1)),Row.nil,rwW sPiece (sR ln),ca,pi,wo,gv,aa,fv,lr,lp,ba,pa⟩:A_lrr)) (br (pi.n+1<=10000000000) (K (Value.bool ((↑((qR (winOf (rwW sPiece (sR ln)) 1 ((↑(rwW sPiece (sR ln)).n:Int).toNat-1))).n-2*((qR (winOf (rwW sPiece (sR ln)) 1 ((↑(rwW sPiece (sR ln)).n:Int).toNat-1))).n/2)):Int)==0)) (t_rd k ca.n (pi.n+1) pc wo.n gv.n aa.n fv.n rr lr.n lpo lpn ld ba.n pa.n cl ca ((winOf pi 0 pi.n).app (winOf ((Row.zeros 1).setR 0 0 (winOf (fldN (fun j a=>psS a ((qR (winOf (rwW sPiece (sR ln)) (0+1) ((↑(rwW sPiece (sR ln)).n:Int).toNat-1))).I (2*j) 0) ((qR (winOf (rwW sPiece (sR ln)) (0+1) ((↑(rwW sPiece (sR ln)).n:Int).toNat-1))).I (2*j) 1) ((qR (winOf (rwW sPiece (sR ln)) (0+1) ((↑(rwW sPiece (sR ln)).n:Int).toNat-1))).I (2*j+1) 0) ((qR (winOf (rwW sPiece (sR ln)) (0+1) ((↑(rwW sPiece (sR ln)).n:Int).toNat-1))).I (2*j+1) 1)) ((qR (winOf (rwW sPiece (sR ln)) 1 ((↑(rwW sPiece (sR ln)).n:Int).toNat-1))).n/2) 0 Row.nil) 0 (fldN (fun j a=>psS a ((qR (winOf (rwW sPiece (sR ln)) (0+1) ((↑(rwW sPiece (sR ln)).n:Int).toNat-1))).I (2*j) 0) ((qR (winOf (rwW sPiece (sR ln)) (0+1) ((↑(rwW sPiece (sR ln)).n:Int).toNat-1))).I (2*j) 1) ((qR (winOf (rwW sPiece (sR ln)) (0+1) ((↑(rwW sPiece (sR ln)).n:Int).toNat-1))).I (2*j+1) 0) ((qR (winOf (rwW sPiece (sR ln)) (0+1) ((↑(rwW sPiece (sR ln)).n:Int).toNat-1))).I (2*j+1) 1)) ((qR (winOf (rwW sPiece (sR ln)) 1 ((↑(rwW sPiece (sR ln)).n:Int).toNat-1))).n/2) 0 Row.nil).n)) 0 1)) wo gv aa fv lr lp ba pa)) none) none)) none) none) none) none) none) (none):=by kernel_rfl
def rdMx(x:Px):List (Option Blk):=rdM x.k x.ca x.pi x.pc x.wo x.gv x.aa x.fv x.rr x.lr x.lp x.lpo x.lpn x.ld x.ba x.pa x.cl
def rdSt(x:Px):St:={τ:=[bx0,bx1],saved:=[],mem:=rdMx x}
def spanR(q:Row):Row:=fldN (fun j a=>psS a (q.I (2*j) 0) (q.I (2*j) 1) (q.I (2*j+1) 0) (q.I (2*j+1) 1)) (q.n/2) 0 .nil
def evB(n:Nat):Bool:=((n-2*(n/2):Nat):Int)==0
def cApp(o l:Row):Row:=(winOf o 0 o.n).app (winOf ((((Row.zeros 1).setI 0 0 (l.I 0 0)).setR 0 1 (winOf l 1 (l.n/2))).setR 0 2 (winOf l (0+(l.n/2+1)) (l.n-(l.n/2+1)))) 0 1)
def yApp(o l:Row):Row:=(winOf o 0 o.n).app (winOf ((((Row.zeros 1).setI 0 0 (l.I 0 0)).setI 0 1 (l.I 1 0)).setI 0 2 (l.I 2 0)) 0 1)
def rdXw(w:List UInt8)(r:Row)(x:Px):Bool×Px:=
 bif w==by_ sPiece then(bif qiB (tlR r)then(evB (qiR (tlR r)).n,{x with pi:=vApp x.pi (win0 (spanR (qiR (tlR r))))})else(false,x))else
 bif w==by_ sWorth then(bif qiB (tlR r)then(true,{x with wo:=vApp x.wo (win0 (qiR (tlR r)))})else(false,x))else
 bif !niB (tlR r)then(false,x)else
 bif w==by_ sCake then(bif decide (2<=(niR (tlR r)).n)&&decide ((niR (tlR r)).n%2=0)then(true,{x with ca:=cApp x.ca (niR (tlR r))})else(false,x))else
 bif w==by_ sValues then(true,bif x.k==2 then{x with gv:=vApp x.gv (win0 (niR (tlR r)))}else{x with fv:=vApp x.fv (win0 (niR (tlR r)))})else
 bif w==by_ sGive then(true,{x with aa:=niR (tlR r)})else
 bif w==by_ sRent then(bif (niR (tlR r)).n=1 then(true,{x with rr:=(niR (tlR r)).I 0 0})else(false,x))else
 bif w==by_ sRooms then(true,{x with lr:=niR (tlR r)})else
 bif w==by_ sPrices then(bif 0<(niR (tlR r)).n then(true,{x with ld:=(niR (tlR r)).I 0 0,lp:=niR (tlR r),lpo:=1,lpn:=(niR (tlR r)).n-1})else(false,x))else
 bif w==by_ sBalances then(true,{x with ba:=niR (tlR r)})else
 bif w==by_ sPay then(bif (niR (tlR r)).n=3 then(true,{x with pa:=yApp x.pa (niR (tlR r))})else(false,x))else
 bif w==by_ sClaims then(bif (niR (tlR r)).n=1∧0<=(niR (tlR r)).I 0 0∧(niR (tlR r)).I 0 0<=31 then(true,bif x.k==1 then{x with pc:=IntKind.u8.wrap ((niR (tlR r)).I 0 0)}else{x with cl:=IntKind.u8.wrap ((niR (tlR r)).I 0 0)})else(false,x))else(false,x)
def rdX(ln:ByteArray)(x:Px):Bool×Px:=rdXw (by_ ((spR ln).S 0 0)) (spR ln) x
def rdC(ln:ByteArray)(x:Px):Bool:=decide (ln.size<4294967281∧x.ca.n<=1000000∧x.pi.n<=1000000∧x.wo.n<=1000000∧x.gv.n<=1000000∧x.fv.n<=1000000∧x.pa.n<=1000000)&&szB (tlR (spR ln))
theorem rw_row(l:List ByteArray):rwW (l.getD 0 .empty) (rowS l)=rowS l:=by
 have h:(fun(e j:Nat)=>match e with|0=>l.getD 0 .empty|e+1=>(rowS l).S (e+1) j)=(fun e _=>l.getD e .empty:Nat->Nat->ByteArray):=by
  funext e j;cases e<;>rfl
 exact congrArg (fun f=>Row.mk l.length (fun _ _=>0) (fun _ _=>false) f (fun _ _=>.nil)) h
theorem rw_spR{s:ByteArray}{w:ByteArray}(h:(spR s).S 0 0=w):rwW w (spR s)=spR s:=by
 rw[<-h];exact rw_row (splS s sSpc)
theorem CrdW(w:ByteArray):∀p,p∈[(125,FspW spR w),(127,FinV szB niR niB),(161,FenV szB qiR qiB)]->DenW Tryz.prog Wd p.1 p.2:=by
 intro p h;simp only[A8,A7,or_false]at h;rcases h with rfl|rfl|rfl
 ·refine den_split.less fun ds rs h=>?_;replace h:FspW spR w ds=some (true,rs):=h;unfold FspW at h;split at h
  ·rename_i s p;simp only[A5,A6,A2,A3]at h;obtain⟨⟨⟨h1,h2⟩,h3⟩,rfl⟩:=h;have e2:p=sSpc:=bytesEq_iff _ _|>.1 h2;have e3:(spR s).S 0 0=w:=bytesEq_iff _ _|>.1 h3;subst e2;show some (decide (s.size<4294967281)&&decide (1<=sSpc.size),[D.slice [.str] (spR s)])=some (true,[D.slice [.str] (rwW w (spR s))]);rw[A4 h1,show decide (1<=sSpc.size)=true by decide,rw_spR e3];rfl
  ·cases h
 ·exact den_ints
 ·exact den_ends
theorem Crd_ok(w:ByteArray):CxW (Crd spR szB niR niB szB qiR qiB w) Wd:=mkCx_okW enter mixed (CrdW w) (fun l h=>by cases h)
theorem Cpi_ok(w:ByteArray):CxW (Cpi spR szB niR niB szB qiR qiB w) Wd:=mkCx_okW enter mixed (CrdW w) (fun l h=>by
 simp only[A8,A7,or_false]at h;rcases h with rfl;exact ok_lrr ..)
theorem spR_1(s:ByteArray):1<=(spR s).n:=by
 have h1:=Ln.splS_pieces 32 s.size s (AC _);have h2:(splS s sSpc).length=(Ln.pieces 32 (by_ s)).length:=by
  rw[<-h1,List.length_map];rfl
 have h3:1<=(splS s sSpc).length:=by
  rw[h2];have:=Ln.pieces_ne 32 (by_ s);cases hp:Ln.pieces 32 (by_ s)with
  |nil=>exact absurd hp this
  |cons a b=>simp
 exact h3
theorem rd_Give{s:ByteArray}{x:Px}(hw:(spR s).S 0 0=sGive)(hc:rdC s x=true)(J:Value->St->OD):inl (Crd spR szB niR niB szB qiR qiB sGive) 8 62 [bx1,.string s] {τ:=[bx0,bx1],saved:=[],mem:=rdMx x} (fun v σ=>J v (norm0 [0,1] σ))=J (.bool (rdX s x).1) (rdSt (rdX s x).2):=by
 obtain⟨hc,cz⟩:=Bool.and_eq_true_iff.1 hc;obtain⟨z1,z2,z3,z4,z5,z6,z7⟩:=AD hc;have e:=rw_spR hw;have hn:=spR_1 s;have hX:rdX s x=rdXw (by_ sGive) (spR s) x:=by unfold rdX;rw[hw]
 rw[hX];refine(wGive spR szB niR niB szB qiR qiB J s x.k x.ca x.pi x.pc x.wo x.gv x.aa x.fv x.rr x.lr x.lp x.lpo x.lpn x.ld x.ba x.pa x.cl).trans ?_;rw[e];generalize hr:spR s=r at*
 have i0:(decide ((0:Int)<=0)&&decide ((0:Int)<(r.n:Int)))=true:=by simp only[A2,A3];omega
 have iF:(decide ((0:Int)<=(r.n:Int))&&decide ((r.n:Int)<=(r.n:Int)))=true:=by simp only[A2,A3];omega
 have i1:(decide ((0:Int)<=1)&&decide ((1:Int)<=(((r.n:Int).toNat:Nat):Int)))=true:=by simp only[A2,A3];omega
 refine br_t (by rw[A4 z1,hw];exact Bool.and_eq_true_iff.2 ⟨(beq_self_eq_true sSpc.toList:(sSpc.toList==sSpc.toList)=true),beq_self_eq_true _⟩) (br_t i0 ?_)
 repeat refine br_t i0 ?_
 refine br_t iF (br_t i1 (br_t cz ?_));have ht:winOf r 1 ((r.n:Int).toNat-1)=tlR r:=rfl;have ht':winOf r (0+1) ((r.n:Int).toNat-1)=tlR r:=rfl;rw[ht];cases hB:niB (tlR r)
 ·rw[show rdXw (by_ sGive) r x=(false,x) by unfold rdXw;rw[hB];rfl];exact br_t rfl rfl
 refine br_f rfl ?_
 try rw[ht']
 repeat refine br_t i0 ?_
 have hL:rdXw (by_ sGive) r x=(true,{x with aa:=niR (tlR r)}):=by unfold rdXw;rw[hB];rfl
 rw[hL];clear hL;generalize hl:niR (tlR r)=l;rfl
theorem rd_Rooms{s:ByteArray}{x:Px}(hw:(spR s).S 0 0=sRooms)(hc:rdC s x=true)(J:Value->St->OD):inl (Crd spR szB niR niB szB qiR qiB sRooms) 8 62 [bx1,.string s] {τ:=[bx0,bx1],saved:=[],mem:=rdMx x} (fun v σ=>J v (norm0 [0,1] σ))=J (.bool (rdX s x).1) (rdSt (rdX s x).2):=by
 obtain⟨hc,cz⟩:=Bool.and_eq_true_iff.1 hc;obtain⟨z1,z2,z3,z4,z5,z6,z7⟩:=AD hc;have e:=rw_spR hw;have hn:=spR_1 s;have hX:rdX s x=rdXw (by_ sRooms) (spR s) x:=by unfold rdX;rw[hw]
 rw[hX];refine(wRooms spR szB niR niB szB qiR qiB J s x.k x.ca x.pi x.pc x.wo x.gv x.aa x.fv x.rr x.lr x.lp x.lpo x.lpn x.ld x.ba x.pa x.cl).trans ?_;rw[e];generalize hr:spR s=r at*
 have i0:(decide ((0:Int)<=0)&&decide ((0:Int)<(r.n:Int)))=true:=by simp only[A2,A3];omega
 have iF:(decide ((0:Int)<=(r.n:Int))&&decide ((r.n:Int)<=(r.n:Int)))=true:=by simp only[A2,A3];omega
 have i1:(decide ((0:Int)<=1)&&decide ((1:Int)<=(((r.n:Int).toNat:Nat):Int)))=true:=by simp only[A2,A3];omega
 refine br_t (by rw[A4 z1,hw];exact Bool.and_eq_true_iff.2 ⟨(beq_self_eq_true sSpc.toList:(sSpc.toList==sSpc.toList)=true),beq_self_eq_true _⟩) (br_t i0 ?_)
 repeat refine br_t i0 ?_
 refine br_t iF (br_t i1 (br_t cz ?_));have ht:winOf r 1 ((r.n:Int).toNat-1)=tlR r:=rfl;have ht':winOf r (0+1) ((r.n:Int).toNat-1)=tlR r:=rfl;rw[ht];cases hB:niB (tlR r)
 ·rw[show rdXw (by_ sRooms) r x=(false,x) by unfold rdXw;rw[hB];rfl];exact br_t rfl rfl
 refine br_f rfl ?_
 try rw[ht']
 repeat refine br_t i0 ?_
 have hL:rdXw (by_ sRooms) r x=(true,{x with lr:=niR (tlR r)}):=by unfold rdXw;rw[hB];rfl
 rw[hL];clear hL;generalize hl:niR (tlR r)=l;rfl
theorem rd_Balances{s:ByteArray}{x:Px}(hw:(spR s).S 0 0=sBalances)(hc:rdC s x=true)(J:Value->St->OD):inl (Crd spR szB niR niB szB qiR qiB sBalances) 8 62 [bx1,.string s] {τ:=[bx0,bx1],saved:=[],mem:=rdMx x} (fun v σ=>J v (norm0 [0,1] σ))=J (.bool (rdX s x).1) (rdSt (rdX s x).2):=by
 obtain⟨hc,cz⟩:=Bool.and_eq_true_iff.1 hc;obtain⟨z1,z2,z3,z4,z5,z6,z7⟩:=AD hc;have e:=rw_spR hw;have hn:=spR_1 s;have hX:rdX s x=rdXw (by_ sBalances) (spR s) x:=by unfold rdX;rw[hw]
 rw[hX];refine(wBalances spR szB niR niB szB qiR qiB J s x.k x.ca x.pi x.pc x.wo x.gv x.aa x.fv x.rr x.lr x.lp x.lpo x.lpn x.ld x.ba x.pa x.cl).trans ?_;rw[e];generalize hr:spR s=r at*
 have i0:(decide ((0:Int)<=0)&&decide ((0:Int)<(r.n:Int)))=true:=by simp only[A2,A3];omega
 have iF:(decide ((0:Int)<=(r.n:Int))&&decide ((r.n:Int)<=(r.n:Int)))=true:=by simp only[A2,A3];omega
 have i1:(decide ((0:Int)<=1)&&decide ((1:Int)<=(((r.n:Int).toNat:Nat):Int)))=true:=by simp only[A2,A3];omega
 refine br_t (by rw[A4 z1,hw];exact Bool.and_eq_true_iff.2 ⟨(beq_self_eq_true sSpc.toList:(sSpc.toList==sSpc.toList)=true),beq_self_eq_true _⟩) (br_t i0 ?_)
 repeat refine br_t i0 ?_
 refine br_t iF (br_t i1 (br_t cz ?_));have ht:winOf r 1 ((r.n:Int).toNat-1)=tlR r:=rfl;have ht':winOf r (0+1) ((r.n:Int).toNat-1)=tlR r:=rfl;rw[ht];cases hB:niB (tlR r)
 ·rw[show rdXw (by_ sBalances) r x=(false,x) by unfold rdXw;rw[hB];rfl];exact br_t rfl rfl
 refine br_f rfl ?_
 try rw[ht']
 repeat refine br_t i0 ?_
 have hL:rdXw (by_ sBalances) r x=(true,{x with ba:=niR (tlR r)}):=by unfold rdXw;rw[hB];rfl
 rw[hL];clear hL;generalize hl:niR (tlR r)=l;rfl
theorem rd_Values{s:ByteArray}{x:Px}(hw:(spR s).S 0 0=sValues)(hc:rdC s x=true)(J:Value->St->OD):inl (Crd spR szB niR niB szB qiR qiB sValues) 8 62 [bx1,.string s] {τ:=[bx0,bx1],saved:=[],mem:=rdMx x} (fun v σ=>J v (norm0 [0,1] σ))=J (.bool (rdX s x).1) (rdSt (rdX s x).2):=by
 obtain⟨hc,cz⟩:=Bool.and_eq_true_iff.1 hc;obtain⟨z1,z2,z3,z4,z5,z6,z7⟩:=AD hc;have e:=rw_spR hw;have hn:=spR_1 s;have hX:rdX s x=rdXw (by_ sValues) (spR s) x:=by unfold rdX;rw[hw]
 rw[hX];refine(wValues spR szB niR niB szB qiR qiB J s x.k x.ca x.pi x.pc x.wo x.gv x.aa x.fv x.rr x.lr x.lp x.lpo x.lpn x.ld x.ba x.pa x.cl).trans ?_;rw[e];generalize hr:spR s=r at*
 have i0:(decide ((0:Int)<=0)&&decide ((0:Int)<(r.n:Int)))=true:=by simp only[A2,A3];omega
 have iF:(decide ((0:Int)<=(r.n:Int))&&decide ((r.n:Int)<=(r.n:Int)))=true:=by simp only[A2,A3];omega
 have i1:(decide ((0:Int)<=1)&&decide ((1:Int)<=(((r.n:Int).toNat:Nat):Int)))=true:=by simp only[A2,A3];omega
 refine br_t (by rw[A4 z1,hw];exact Bool.and_eq_true_iff.2 ⟨(beq_self_eq_true sSpc.toList:(sSpc.toList==sSpc.toList)=true),beq_self_eq_true _⟩) (br_t i0 ?_)
 repeat refine br_t i0 ?_
 refine br_t iF (br_t i1 (br_t cz ?_));have ht:winOf r 1 ((r.n:Int).toNat-1)=tlR r:=rfl;have ht':winOf r (0+1) ((r.n:Int).toNat-1)=tlR r:=rfl;rw[ht];cases hB:niB (tlR r)
 ·rw[show rdXw (by_ sValues) r x=(false,x) by unfold rdXw;rw[hB];rfl];exact br_t rfl rfl
 refine br_f rfl ?_
 try rw[ht']
 repeat refine br_t i0 ?_
 have hL:rdXw (by_ sValues) r x=(true,bif x.k==2 then{x with gv:=vApp x.gv (win0 (niR (tlR r)))}else{x with fv:=vApp x.fv (win0 (niR (tlR r)))}):=by unfold rdXw;rw[hB];rfl
 rw[hL];clear hL;generalize hl:niR (tlR r)=l;cases hk:x.k==2
 ·refine br_f rfl ?_
  repeat refine br_t i0 ?_
  exact br_t (A4 (by omega)) rfl
 ·exact br_t rfl (br_t (A4 (by omega)) rfl)
theorem rd_Rent{s:ByteArray}{x:Px}(hw:(spR s).S 0 0=sRent)(hc:rdC s x=true)(J:Value->St->OD):inl (Crd spR szB niR niB szB qiR qiB sRent) 8 62 [bx1,.string s] {τ:=[bx0,bx1],saved:=[],mem:=rdMx x} (fun v σ=>J v (norm0 [0,1] σ))=J (.bool (rdX s x).1) (rdSt (rdX s x).2):=by
 obtain⟨hc,cz⟩:=Bool.and_eq_true_iff.1 hc;obtain⟨z1,z2,z3,z4,z5,z6,z7⟩:=AD hc;have e:=rw_spR hw;have hn:=spR_1 s;have hX:rdX s x=rdXw (by_ sRent) (spR s) x:=by unfold rdX;rw[hw]
 rw[hX];refine(wRent spR szB niR niB szB qiR qiB J s x.k x.ca x.pi x.pc x.wo x.gv x.aa x.fv x.rr x.lr x.lp x.lpo x.lpn x.ld x.ba x.pa x.cl).trans ?_;rw[e];generalize hr:spR s=r at*
 have i0:(decide ((0:Int)<=0)&&decide ((0:Int)<(r.n:Int)))=true:=by simp only[A2,A3];omega
 have iF:(decide ((0:Int)<=(r.n:Int))&&decide ((r.n:Int)<=(r.n:Int)))=true:=by simp only[A2,A3];omega
 have i1:(decide ((0:Int)<=1)&&decide ((1:Int)<=(((r.n:Int).toNat:Nat):Int)))=true:=by simp only[A2,A3];omega
 refine br_t (by rw[A4 z1,hw];exact Bool.and_eq_true_iff.2 ⟨(beq_self_eq_true sSpc.toList:(sSpc.toList==sSpc.toList)=true),beq_self_eq_true _⟩) (br_t i0 ?_)
 repeat refine br_t i0 ?_
 refine br_t iF (br_t i1 (br_t cz ?_));have ht:winOf r 1 ((r.n:Int).toNat-1)=tlR r:=rfl;have ht':winOf r (0+1) ((r.n:Int).toNat-1)=tlR r:=rfl;rw[ht];cases hB:niB (tlR r)
 ·rw[show rdXw (by_ sRent) r x=(false,x) by unfold rdXw;rw[hB];rfl];exact br_t rfl rfl
 refine br_f rfl ?_
 try rw[ht']
 repeat refine br_t i0 ?_
 have hL:rdXw (by_ sRent) r x=(bif (niR (tlR r)).n=1 then(true,{x with rr:=(niR (tlR r)).I 0 0})else(false,x)):=by unfold rdXw;rw[hB];rfl
 rw[hL];clear hL;generalize hl:niR (tlR r)=l;by_cases hk:l.n=1
 ·rw[A4 hk];exact br_t (by rw[hk];rfl) (br_t (by simp only[A2,A3];omega) rfl)
 ·rw[AB hk];refine br_f (by simp;omega) ?_
  repeat refine br_t i0 ?_
  rfl
theorem rd_Prices{s:ByteArray}{x:Px}(hw:(spR s).S 0 0=sPrices)(hc:rdC s x=true)(J:Value->St->OD):inl (Crd spR szB niR niB szB qiR qiB sPrices) 8 62 [bx1,.string s] {τ:=[bx0,bx1],saved:=[],mem:=rdMx x} (fun v σ=>J v (norm0 [0,1] σ))=J (.bool (rdX s x).1) (rdSt (rdX s x).2):=by
 obtain⟨hc,cz⟩:=Bool.and_eq_true_iff.1 hc;obtain⟨z1,z2,z3,z4,z5,z6,z7⟩:=AD hc;have e:=rw_spR hw;have hn:=spR_1 s;have hX:rdX s x=rdXw (by_ sPrices) (spR s) x:=by unfold rdX;rw[hw]
 rw[hX];refine(wPrices spR szB niR niB szB qiR qiB J s x.k x.ca x.pi x.pc x.wo x.gv x.aa x.fv x.rr x.lr x.lp x.lpo x.lpn x.ld x.ba x.pa x.cl).trans ?_;rw[e];generalize hr:spR s=r at*
 have i0:(decide ((0:Int)<=0)&&decide ((0:Int)<(r.n:Int)))=true:=by simp only[A2,A3];omega
 have iF:(decide ((0:Int)<=(r.n:Int))&&decide ((r.n:Int)<=(r.n:Int)))=true:=by simp only[A2,A3];omega
 have i1:(decide ((0:Int)<=1)&&decide ((1:Int)<=(((r.n:Int).toNat:Nat):Int)))=true:=by simp only[A2,A3];omega
 refine br_t (by rw[A4 z1,hw];exact Bool.and_eq_true_iff.2 ⟨(beq_self_eq_true sSpc.toList:(sSpc.toList==sSpc.toList)=true),beq_self_eq_true _⟩) (br_t i0 ?_)
 repeat refine br_t i0 ?_
 refine br_t iF (br_t i1 (br_t cz ?_));have ht:winOf r 1 ((r.n:Int).toNat-1)=tlR r:=rfl;have ht':winOf r (0+1) ((r.n:Int).toNat-1)=tlR r:=rfl;rw[ht];cases hB:niB (tlR r)
 ·rw[show rdXw (by_ sPrices) r x=(false,x) by unfold rdXw;rw[hB];rfl];exact br_t rfl rfl
 refine br_f rfl ?_
 try rw[ht']
 repeat refine br_t i0 ?_
 have hL:rdXw (by_ sPrices) r x=(bif 0<(niR (tlR r)).n then(true,{x with ld:=(niR (tlR r)).I 0 0,lp:=niR (tlR r),lpo:=1,lpn:=(niR (tlR r)).n-1})else(false,x)):=by unfold rdXw;rw[hB];rfl
 rw[hL];clear hL;generalize hl:niR (tlR r)=l;by_cases hk:0<l.n
 ·rw[A4 hk];exact br_t (A4 (by omega)) (br_t (by simp only[A2,A3];omega) (br_t (by simp only[A2,A3];omega) (br_t (by simp only[A2,A3];omega) rfl)))
 ·rw[AB hk];refine br_f (AB (by omega)) ?_
  repeat refine br_t i0 ?_
  rfl
theorem rd_Pay{s:ByteArray}{x:Px}(hw:(spR s).S 0 0=sPay)(hc:rdC s x=true)(J:Value->St->OD):inl (Crd spR szB niR niB szB qiR qiB sPay) 8 62 [bx1,.string s] {τ:=[bx0,bx1],saved:=[],mem:=rdMx x} (fun v σ=>J v (norm0 [0,1] σ))=J (.bool (rdX s x).1) (rdSt (rdX s x).2):=by
 obtain⟨hc,cz⟩:=Bool.and_eq_true_iff.1 hc;obtain⟨z1,z2,z3,z4,z5,z6,z7⟩:=AD hc;have e:=rw_spR hw;have hn:=spR_1 s;have hX:rdX s x=rdXw (by_ sPay) (spR s) x:=by unfold rdX;rw[hw]
 rw[hX];refine(wPay spR szB niR niB szB qiR qiB J s x.k x.ca x.pi x.pc x.wo x.gv x.aa x.fv x.rr x.lr x.lp x.lpo x.lpn x.ld x.ba x.pa x.cl).trans ?_;rw[e];generalize hr:spR s=r at*
 have i0:(decide ((0:Int)<=0)&&decide ((0:Int)<(r.n:Int)))=true:=by simp only[A2,A3];omega
 have iF:(decide ((0:Int)<=(r.n:Int))&&decide ((r.n:Int)<=(r.n:Int)))=true:=by simp only[A2,A3];omega
 have i1:(decide ((0:Int)<=1)&&decide ((1:Int)<=(((r.n:Int).toNat:Nat):Int)))=true:=by simp only[A2,A3];omega
 refine br_t (by rw[A4 z1,hw];exact Bool.and_eq_true_iff.2 ⟨(beq_self_eq_true sSpc.toList:(sSpc.toList==sSpc.toList)=true),beq_self_eq_true _⟩) (br_t i0 ?_)
 repeat refine br_t i0 ?_
 refine br_t iF (br_t i1 (br_t cz ?_));have ht:winOf r 1 ((r.n:Int).toNat-1)=tlR r:=rfl;have ht':winOf r (0+1) ((r.n:Int).toNat-1)=tlR r:=rfl;rw[ht];cases hB:niB (tlR r)
 ·rw[show rdXw (by_ sPay) r x=(false,x) by unfold rdXw;rw[hB];rfl];exact br_t rfl rfl
 refine br_f rfl ?_
 try rw[ht']
 repeat refine br_t i0 ?_
 have hL:rdXw (by_ sPay) r x=(bif (niR (tlR r)).n=3 then(true,{x with pa:=yApp x.pa (niR (tlR r))})else(false,x)):=by unfold rdXw;rw[hB];rfl
 rw[hL];clear hL;generalize hl:niR (tlR r)=l;by_cases hk:l.n=3
 ·rw[A4 hk];exact br_t (by rw[hk];rfl) (br_t (by simp only[A2,A3];omega) (br_t (by simp only[A2,A3];omega) (br_t (by simp only[A2,A3];omega) (br_t (A4 (by rw[winOf_n];omega)) rfl))))
 ·rw[AB hk];refine br_f (by simp;omega) ?_
  repeat refine br_t i0 ?_
  rfl
theorem rd_Claims{s:ByteArray}{x:Px}(hw:(spR s).S 0 0=sClaims)(hc:rdC s x=true)(J:Value->St->OD):inl (Crd spR szB niR niB szB qiR qiB sClaims) 8 62 [bx1,.string s] {τ:=[bx0,bx1],saved:=[],mem:=rdMx x} (fun v σ=>J v (norm0 [0,1] σ))=J (.bool (rdX s x).1) (rdSt (rdX s x).2):=by
 obtain⟨hc,cz⟩:=Bool.and_eq_true_iff.1 hc;obtain⟨z1,z2,z3,z4,z5,z6,z7⟩:=AD hc;have e:=rw_spR hw;have hn:=spR_1 s;have hX:rdX s x=rdXw (by_ sClaims) (spR s) x:=by unfold rdX;rw[hw]
 rw[hX];refine(wClaims spR szB niR niB szB qiR qiB J s x.k x.ca x.pi x.pc x.wo x.gv x.aa x.fv x.rr x.lr x.lp x.lpo x.lpn x.ld x.ba x.pa x.cl).trans ?_;rw[e];generalize hr:spR s=r at*
 have i0:(decide ((0:Int)<=0)&&decide ((0:Int)<(r.n:Int)))=true:=by simp only[A2,A3];omega
 have iF:(decide ((0:Int)<=(r.n:Int))&&decide ((r.n:Int)<=(r.n:Int)))=true:=by simp only[A2,A3];omega
 have i1:(decide ((0:Int)<=1)&&decide ((1:Int)<=(((r.n:Int).toNat:Nat):Int)))=true:=by simp only[A2,A3];omega
 refine br_t (by rw[A4 z1,hw];exact Bool.and_eq_true_iff.2 ⟨(beq_self_eq_true sSpc.toList:(sSpc.toList==sSpc.toList)=true),beq_self_eq_true _⟩) (br_t i0 ?_)
 repeat refine br_t i0 ?_
 refine br_t iF (br_t i1 (br_t cz ?_));have ht:winOf r 1 ((r.n:Int).toNat-1)=tlR r:=rfl;have ht':winOf r (0+1) ((r.n:Int).toNat-1)=tlR r:=rfl;rw[ht];cases hB:niB (tlR r)
 ·rw[show rdXw (by_ sClaims) r x=(false,x) by unfold rdXw;rw[hB];rfl];exact br_t rfl rfl
 refine br_f rfl ?_
 try rw[ht']
 repeat refine br_t i0 ?_
 have hL:rdXw (by_ sClaims) r x=(bif (niR (tlR r)).n=1∧0<=(niR (tlR r)).I 0 0∧(niR (tlR r)).I 0 0<=31 then(true,bif x.k==1 then{x with pc:=IntKind.u8.wrap ((niR (tlR r)).I 0 0)}else{x with cl:=IntKind.u8.wrap ((niR (tlR r)).I 0 0)})else(false,x)):=by unfold rdXw;rw[hB];rfl
 rw[hL];clear hL;generalize hl:niR (tlR r)=l;by_cases hk:l.n=1
 ·have j0:(decide ((0:Int)<=0)&&decide ((0:Int)<(l.n:Int)))=true:=(by simp only[A2,A3];omega);refine br_t (by rw[hk];rfl) (br_t j0 ?_);by_cases h0:0<=l.I 0 0
  ·refine br_t (A4 h0) (br_t j0 ?_);by_cases h1:l.I 0 0<=31
   ·rw[A4 (⟨hk,h0,h1⟩:l.n=1∧0<=l.I 0 0∧l.I 0 0<=31)];refine br_t (A4 h1) ?_;cases x.k==1
    ·exact br_f rfl (br_t j0 rfl)
    ·exact br_t rfl (br_t j0 rfl)
   ·rw[AB (fun h=>h1 h.2.2:¬(l.n=1∧0<=l.I 0 0∧l.I 0 0<=31))];exact br_f (AB h1) rfl
  ·rw[AB (fun h=>h0 h.2.1:¬(l.n=1∧0<=l.I 0 0∧l.I 0 0<=31))];exact br_f (AB h0) rfl
 ·rw[AB (fun h=>hk h.1:¬(l.n=1∧0<=l.I 0 0∧l.I 0 0<=31))];refine br_f (by simp;omega) ?_
  repeat refine br_t i0 ?_
  rfl
theorem niR_le{s:ByteArray}(h:szB (tlR (spR s))=true):(niR (tlR (spR s))).n<=1000000:=Nat.le_trans (niR_n _) (szB_P h).1
theorem qiR_le{s:ByteArray}(h:szB (tlR (spR s))=true):(qiR (tlR (spR s))).n<=1000000:=Nat.le_trans (qiR_n _) (szB_P h).1
theorem half_w{n:Nat}(h:n<=1000000):IntKind.i64.wrap (IntKind.i64.wrap ((n:Int).tdiv 2)+1)=((n/2+1:Nat):Int):=by
 have e:(n:Int).tdiv 2=((n/2:Nat):Int):=by
  rw[Int.tdiv_eq_ediv_of_nonneg (by omega)];omega
 rw[e,show IntKind.i64.wrap ((n/2:Nat):Int)=((n/2:Nat):Int)from wrap64 (by omega) (by omega),wrap64 (by omega) (by omega)];omega
theorem mod_w{n:Nat}:((n:Int).tmod 2==0)=decide (n%2=0):=by
 have e:(n:Int).tmod 2=((n%2:Nat):Int):=by
  rw[Int.tmod_eq_emod_of_nonneg (by omega)];omega
 rw[e];by_cases h:n%2=0
 ·rw[h];rfl
 ·rw[AB h];simp;omega
theorem rd_Cake{s:ByteArray}{x:Px}(hw:(spR s).S 0 0=sCake)(hc:rdC s x=true)(J:Value->St->OD):inl (Crd spR szB niR niB szB qiR qiB sCake) 8 62 [bx1,.string s] {τ:=[bx0,bx1],saved:=[],mem:=rdMx x} (fun v σ=>J v (norm0 [0,1] σ))=J (.bool (rdX s x).1) (rdSt (rdX s x).2):=by
 obtain⟨hc,cz⟩:=Bool.and_eq_true_iff.1 hc;obtain⟨z1,z2,z3,z4,z5,z6,z7⟩:=AD hc;have hN:=niR_le cz;have e:=rw_spR hw;have hn:=spR_1 s;have hX:rdX s x=rdXw (by_ sCake) (spR s) x:=by unfold rdX;rw[hw]
 rw[hX];refine(wCake spR szB niR niB szB qiR qiB J s x.k x.ca x.pi x.pc x.wo x.gv x.aa x.fv x.rr x.lr x.lp x.lpo x.lpn x.ld x.ba x.pa x.cl).trans ?_;rw[e];generalize hr:spR s=r at*
 have i0:(decide ((0:Int)<=0)&&decide ((0:Int)<(r.n:Int)))=true:=by simp only[A2,A3];omega
 have iF:(decide ((0:Int)<=(r.n:Int))&&decide ((r.n:Int)<=(r.n:Int)))=true:=by simp only[A2,A3];omega
 have i1:(decide ((0:Int)<=1)&&decide ((1:Int)<=(((r.n:Int).toNat:Nat):Int)))=true:=by simp only[A2,A3];omega
 refine br_t (by rw[A4 z1,hw];exact Bool.and_eq_true_iff.2 ⟨(beq_self_eq_true sSpc.toList:(sSpc.toList==sSpc.toList)=true),beq_self_eq_true _⟩) (br_t i0 ?_)
 repeat refine br_t i0 ?_
 refine br_t iF (br_t i1 (br_t cz ?_));have ht:winOf r 1 ((r.n:Int).toNat-1)=tlR r:=rfl;have ht':winOf r (0+1) ((r.n:Int).toNat-1)=tlR r:=rfl;rw[ht];cases hB:niB (tlR r)
 ·rw[show rdXw (by_ sCake) r x=(false,x) by unfold rdXw;rw[hB];rfl];exact br_t rfl rfl
 refine br_f rfl ?_
 try rw[ht']
 repeat refine br_t i0 ?_
 have hL:rdXw (by_ sCake) r x=(bif decide (2<=(niR (tlR r)).n)&&decide ((niR (tlR r)).n%2=0)then(true,{x with ca:=cApp x.ca (niR (tlR r))})else(false,x)):=by unfold rdXw;rw[hB];rfl
 rw[hL];clear hL;generalize hl:niR (tlR r)=l;rw[hl]at hN;rw[half_w hN,mod_w];by_cases h2:2<=l.n
 ·rw[A4 h2,Bool.true_and];refine br_t (A4 (by omega)) ?_;by_cases h3:l.n%2=0
  ·rw[A4 h3];exact br_t rfl (br_t (by simp only[A2,A3];omega) (br_t (by simp only[A2,A3];omega) (br_t (by simp only[A2,A3];omega) (br_t (by simp only[A2,A3];omega) (br_t (by simp only[A2,A3];omega) (br_t (by simp only[A2,A3];omega) (br_t (A4 (by omega)) rfl)))))))
  ·rw[AB h3];refine br_f rfl ?_
   repeat refine br_t i0 ?_
   rfl
 ·rw[AB h2,Bool.false_and];refine br_f (AB (by omega)) ?_
  repeat refine br_t i0 ?_
  rfl
theorem rd_Worth{s:ByteArray}{x:Px}(hw:(spR s).S 0 0=sWorth)(hc:rdC s x=true)(J:Value->St->OD):inl (Crd spR szB niR niB szB qiR qiB sWorth) 8 62 [bx1,.string s] {τ:=[bx0,bx1],saved:=[],mem:=rdMx x} (fun v σ=>J v (norm0 [0,1] σ))=J (.bool (rdX s x).1) (rdSt (rdX s x).2):=by
 obtain⟨hc,cz⟩:=Bool.and_eq_true_iff.1 hc;obtain⟨z1,z2,z3,z4,z5,z6,z7⟩:=AD hc;have e:=rw_spR hw;have hn:=spR_1 s;have hX:rdX s x=rdXw (by_ sWorth) (spR s) x:=by unfold rdX;rw[hw]
 rw[hX];refine(wWorth spR szB niR niB szB qiR qiB J s x.k x.ca x.pi x.pc x.wo x.gv x.aa x.fv x.rr x.lr x.lp x.lpo x.lpn x.ld x.ba x.pa x.cl).trans ?_;rw[e];generalize hr:spR s=r at*
 have i0:(decide ((0:Int)<=0)&&decide ((0:Int)<(r.n:Int)))=true:=by simp only[A2,A3];omega
 have iF:(decide ((0:Int)<=(r.n:Int))&&decide ((r.n:Int)<=(r.n:Int)))=true:=by simp only[A2,A3];omega
 have i1:(decide ((0:Int)<=1)&&decide ((1:Int)<=(((r.n:Int).toNat:Nat):Int)))=true:=by simp only[A2,A3];omega
 refine br_t (by rw[A4 z1,hw];exact Bool.and_eq_true_iff.2 ⟨(beq_self_eq_true sSpc.toList:(sSpc.toList==sSpc.toList)=true),beq_self_eq_true _⟩) (br_t i0 ?_)
 repeat refine br_t i0 ?_
 refine br_t iF (br_t i1 (br_t cz ?_));have ht:winOf r 1 ((r.n:Int).toNat-1)=tlR r:=rfl;rw[ht];cases hB:qiB (tlR r)
 ·rw[show rdXw (by_ sWorth) r x=(false,x) by unfold rdXw;rw[hB];rfl];exact br_t rfl rfl
 refine br_f rfl ?_;have hL:rdXw (by_ sWorth) r x=(true,{x with wo:=vApp x.wo (win0 (qiR (tlR r)))}):=by unfold rdXw;rw[hB];rfl
 rw[hL];clear hL;exact br_t (A4 (by omega)) rfl
theorem rd_Piece{s:ByteArray}{x:Px}(hw:(spR s).S 0 0=sPiece)(hc:rdC s x=true)(J:Value->St->OD):inl (Cpi spR szB niR niB szB qiR qiB sPiece) 8 62 [bx1,.string s] {τ:=[bx0,bx1],saved:=[],mem:=rdMx x} (fun v σ=>J v (norm0 [0,1] σ))=J (.bool (rdX s x).1) (rdSt (rdX s x).2):=by
 obtain⟨hc,cz⟩:=Bool.and_eq_true_iff.1 hc;obtain⟨z1,z2,z3,z4,z5,z6,z7⟩:=AD hc;have hQ:=qiR_le cz;have e:=rw_spR hw;have hn:=spR_1 s;have hX:rdX s x=rdXw (by_ sPiece) (spR s) x:=by unfold rdX;rw[hw]
 rw[hX];refine(wPiece spR szB niR niB szB qiR qiB J s x.k x.ca x.pi x.pc x.wo x.gv x.aa x.fv x.rr x.lr x.lp x.lpo x.lpn x.ld x.ba x.pa x.cl).trans ?_;rw[e];generalize hr:spR s=r at*
 have i0:(decide ((0:Int)<=0)&&decide ((0:Int)<(r.n:Int)))=true:=by simp only[A2,A3];omega
 have iF:(decide ((0:Int)<=(r.n:Int))&&decide ((r.n:Int)<=(r.n:Int)))=true:=by simp only[A2,A3];omega
 have i1:(decide ((0:Int)<=1)&&decide ((1:Int)<=(((r.n:Int).toNat:Nat):Int)))=true:=by simp only[A2,A3];omega
 refine br_t (by rw[A4 z1,hw];exact Bool.and_eq_true_iff.2 ⟨(beq_self_eq_true sSpc.toList:(sSpc.toList==sSpc.toList)=true),beq_self_eq_true _⟩) (br_t i0 ?_)
 repeat refine br_t i0 ?_
 refine br_t iF (br_t i1 (br_t cz ?_));have ht:winOf r 1 ((r.n:Int).toNat-1)=tlR r:=rfl;rw[ht];cases hB:qiB (tlR r)
 ·rw[show rdXw (by_ sPiece) r x=(false,x) by unfold rdXw;rw[hB];rfl];exact br_t rfl rfl
 refine br_f rfl ?_;have hL:rdXw (by_ sPiece) r x=(evB (qiR (tlR r)).n,{x with pi:=vApp x.pi (win0 (spanR (qiR (tlR r))))}):=by unfold rdXw;rw[hB];rfl
 rw[hL];clear hL;refine br_t (c_lrr_iff.2 ⟨rfl,rfl,rfl,rfl,rfl,rfl,rfl,rfl,rfl,hQ,rfl⟩) ?_;exact br_t (A4 (show x.pi.n+1<=10000000000 by omega)) rfl
theorem CnoW:∀p,p∈[(125,FspV spR),(127,FinV szB niR niB),(161,FenV szB qiR qiB)]->DenW Tryz.prog Wd p.1 p.2:=by
 intro p h;simp only[A8,A7,or_false]at h;rcases h with rfl|rfl|rfl
 ·refine den_split.less fun ds rs h=>?_;replace h:FspV spR ds=some (true,rs):=h;unfold FspV at h;split at h
  ·rename_i s p;simp only[A5,A6,A2,A3]at h;obtain⟨⟨h1,h2⟩,rfl⟩:=h;have e2:p=sSpc:=bytesEq_iff _ _|>.1 h2;subst e2;show some (decide (s.size<4294967281)&&decide (1<=sSpc.size),[D.slice [.str] (spR s)])=some (true,[D.slice [.str] (spR s)]);rw[A4 h1,show decide (1<=sSpc.size)=true by decide];rfl
  ·cases h
 ·exact den_ints
 ·exact den_ends
theorem Cno_ok:CxW (Cno spR szB niR niB szB qiR qiB) Wd:=fun wb hW=>by
 have h:CxAt (mkCx Tryz.prog fns [(125,FspV spR),(127,FinV szB niR niB),(161,FenV szB qiR qiB)] []) wb:=(mkCx_okW enter mixed CnoW (fun l h=>by cases h):CxW _ Wd) wb hW;exact{enter:=h.enter,den:=h.den,mixed:=h.mixed,ext:=h.ext,inpl:=h.inpl,loop:=fun f b hb L hL=>by cases hL}
theorem bne_w{a b:ByteArray}(h:(by_ a==by_ b)=false):(a.toList==b.toList)=false:=by
 rw[toList_by,toList_by];exact h
theorem rd_none{s:ByteArray}{x:Px}(hPiece:(by_ ((spR s).S 0 0)==by_ sPiece)=false)(hWorth:(by_ ((spR s).S 0 0)==by_ sWorth)=false)(hCake:(by_ ((spR s).S 0 0)==by_ sCake)=false)(hValues:(by_ ((spR s).S 0 0)==by_ sValues)=false)(hGive:(by_ ((spR s).S 0 0)==by_ sGive)=false)(hRent:(by_ ((spR s).S 0 0)==by_ sRent)=false)(hRooms:(by_ ((spR s).S 0 0)==by_ sRooms)=false)(hPrices:(by_ ((spR s).S 0 0)==by_ sPrices)=false)(hBalances:(by_ ((spR s).S 0 0)==by_ sBalances)=false)(hPay:(by_ ((spR s).S 0 0)==by_ sPay)=false)(hClaims:(by_ ((spR s).S 0 0)==by_ sClaims)=false)(hc:rdC s x=true)(J:Value->St->OD):inl (Cno spR szB niR niB szB qiR qiB) 8 62 [bx1,.string s] {τ:=[bx0,bx1],saved:=[],mem:=rdMx x} (fun v σ=>J v (norm0 [0,1] σ))=J (.bool (rdX s x).1) (rdSt (rdX s x).2):=by
 obtain⟨hc,cz⟩:=Bool.and_eq_true_iff.1 hc;obtain⟨z1,z2,z3,z4,z5,z6,z7⟩:=AD hc;have hn:=spR_1 s;have hX:rdX s x=(false,x):=by
  unfold rdX rdXw;rw[hPiece,hWorth,hCake,hValues,hGive,hRent,hRooms,hPrices,hBalances,hPay,hClaims];cases niB (tlR (spR s))<;>rfl
 rw[hX];refine(wNone spR szB niR niB szB qiR qiB J s x.k x.ca x.pi x.pc x.wo x.gv x.aa x.fv x.rr x.lr x.lp x.lpo x.lpn x.ld x.ba x.pa x.cl).trans ?_;generalize hr:spR s=r at*
 have i0:(decide ((0:Int)<=0)&&decide ((0:Int)<(r.n:Int)))=true:=by simp only[A2,A3];omega
 have iF:(decide ((0:Int)<=(r.n:Int))&&decide ((r.n:Int)<=(r.n:Int)))=true:=by simp only[A2,A3];omega
 have i1:(decide ((0:Int)<=1)&&decide ((1:Int)<=(((r.n:Int).toNat:Nat):Int)))=true:=by simp only[A2,A3];omega
 refine br_t (by rw[A4 z1];exact(beq_self_eq_true sSpc.toList:(sSpc.toList==sSpc.toList)=true)) (br_t i0 (br_f (bne_w (b:=sPiece) hPiece) (br_t i0 (br_f (bne_w (b:=sWorth) hWorth) (br_t iF (br_t i1 (br_t cz ?_)))))));cases hB:niB (winOf r 1 ((r.n:Int).toNat-1))
 ·exact br_t rfl rfl
 refine br_f rfl ?_;refine br_t i0 (br_f (bne_w (b:=sCake) hCake) ?_);refine br_t i0 (br_f (bne_w (b:=sValues) hValues) ?_);refine br_t i0 (br_f (bne_w (b:=sValues) hValues) ?_);refine br_t i0 (br_f (bne_w (b:=sGive) hGive) ?_);refine br_t i0 (br_f (bne_w (b:=sRent) hRent) ?_);refine br_t i0 (br_f (bne_w (b:=sRooms) hRooms) ?_);refine br_t i0 (br_f (bne_w (b:=sPrices) hPrices) ?_);refine br_t i0 (br_f (bne_w (b:=sBalances) hBalances) ?_);refine br_t i0 (br_f (bne_w (b:=sPay) hPay) ?_);refine br_t i0 (br_f (bne_w (b:=sClaims) hClaims) ?_);rfl
def bxB0:Option Value->Bool
 |some (.pointer (some ⟨0,0,some 0⟩))=>true
 |_=>false
def bxB1:Option Value->Bool
 |some (.pointer (some ⟨1,0,some 0⟩))=>true
 |_=>false
def frOk(σ:St):Bool:=σ.τ.all frV&&(σ.saved.all (fun τ=>τ.all frV))&&bxB0 σ.τ[2]? &&bxB1 σ.τ[7]?
def p_rd:PSt:={τ:=[],saved:=[],mem:=[.box [.v (.c (.int .u8 0)),.v (.c (.slice none 0 0)),.v (.c (.slice none 0 0)),.v (.c (.int .u8 0)),.v (.c (.slice none 0 0)),.v (.c (.slice none 0 0)),.v (.c (.slice none 0 0)),.v (.c (.slice none 0 0)),.v (.c (.int .i64 0)),.v (.c (.slice none 0 0)),.v (.c (.slice none 0 0)),.v (.c (.int .i64 0)),.v (.c (.slice none 0 0)),.v (.c (.slice none 0 0)),.v (.c (.int .u8 0))],.box [.v (.int .u8),.v (.sl 2),.v (.sl 3),.v (.int .u8),.v (.sl 4),.v (.sl 5),.v (.sl 6),.v (.sl 7),.v (.int .i64),.v (.sl 8),.v (.slw 9),.v (.int .i64),.v (.sl 10),.v (.sl 11),.v (.int .u8)],.deep [.int .i64,.slice [.int .i64],.slice [.int .i64]],.deep [.slice [.int .i64,.int .i64,.int .i64,.int .i64]],.deep [.slice [.int .i64,.int .i64]],.deep [.slice [.int .i64]],.row [.int .i64] true,.deep [.slice [.int .i64]],.row [.int .i64] true,.row [.int .i64] true,.row [.int .i64] true,.row [.int .i64,.int .i64,.int .i64] true]}
def pxD:List It->Option (Bool×Px)
 |[.i k,.n can,.n pin,.i pc,.n won,.n gvn,.n aan,.n fvn,.i rr,.n lrn,.n lpo,.n lpn,.i ld,.n ban,.n pan,.i cl,.r ca,.r pi,.r wo,.r gv,.r aa,.r fv,.r lr,.r lp,.r ba,.r pa]=>some (decide (can=ca.n∧pin=pi.n∧won=wo.n∧gvn=gv.n∧aan=aa.n∧fvn=fv.n∧lrn=lr.n∧ban=ba.n∧pan=pa.n),⟨k,ca,pi,pc,wo,gv,aa,fv,rr,lr,lp,lpo,lpn,ld,ba,pa,cl⟩)
 |_=>none
def pxOf(m:List (Option Blk)):Option (Bool×Px):=match matchSt p_rd {τ:=[],saved:=[],mem:=m}with
 |some its=>pxD its
 |none=>none
theorem pxOf_eq{m:List (Option Blk)}{x:Px}(h:pxOf m=some (true,x)):m=rdMx x:=by
 unfold pxOf at h;split at h
 ·rename_i its hm;have e:=congrArg St.mem (matchSt_build hm);unfold pxD at h;split at h
  ·simp only[A5,A6,A3]at h;obtain⟨⟨rfl,rfl,rfl,rfl,rfl,rfl,rfl,rfl,rfl⟩,rfl⟩:=h;exact e.symm
  ·cases h
 ·cases h
def FrdV(rc:ByteArray->Px->Bool)(rx:ByteArray->Px->Bool×Px):List Value->St->Option (Bool×Value×St)
 |[.pointer (some ⟨1,0,some 0⟩),.string s],σ=>match pxOf σ.mem with
  |some (b,x)=>match frOk σ with
   |true=>some (b&&rc s x,.bool (rx s x).1,{σ with mem:=rdMx (rx s x).2})
   |false=>none
  |none=>none
 |_,_=>none
theorem bxB0_eq{v:Option Value}(h:bxB0 v=true):v=some bx0:=by
 unfold bxB0 at h;split at h
 ·rfl
 ·cases h
theorem bxB1_eq{v:Option Value}(h:bxB1 v=true):v=some bx1:=by
 unfold bxB1 at h;split at h
 ·rfl
 ·cases h
theorem rd_iat:∀wb,Wd wb->IAt Tryz.prog wb 62 (FrdV rdC rdX):=fun wb hW w0 hb args σ v σ1 hF a cs w ρ cargs hR hv=>by
 have hW0:=hW.later hb;unfold FrdV at hF;split at hF
 ·rename_i s;split at hF
  ·rename_i b x hp;split at hF
   ·rename_i hfr;simp only[A5,A6,A2]at hF;obtain⟨⟨rfl,hc⟩,rfl,rfl⟩:=hF;have hm:=pxOf_eq hp;unfold frOk at hfr;simp only[A2]at hfr;obtain⟨⟨⟨f1,f2⟩,f3⟩,f4⟩:=hfr;have go:∀(C:Cx),C.P=Tryz.prog->CxAt C w0->(∀J:Value->St->OD,inl C 8 62 [bx1,.string s] {τ:=[bx0,bx1],saved:=[],mem:=rdMx x} (fun v σ=>J v (norm0 [0,1] σ))=J (.bool (rdX s x).1) (rdSt (rdX s x).2))->
      Calls Tryz.prog 62 ⟨cargs⟩ w fun e w'=>∃cv ρ1,e=.returned cv∧Rel w0 {σ with mem:=rdMx (rdX s x).2} a cs w' ρ1∧V ρ1 (rdMx (rdX s x).2).length (.bool (rdX s x).1) cv:=fun C hP hC hev=>by
     have:=iat_norm hC (mem:=rdMx x) (mem1:=rdMx (rdX s x).2) (v:=.bool (rdX s x).1) rfl hev hm f1 f2 (bxB0_eq f3) (bxB1_eq f4) (b0:=.box [.int .u8 0,.slice none 0 0,.slice none 0 0,.int .u8 0,.slice none 0 0,.slice none 0 0,.slice none 0 0,.slice none 0 0,i64 0,.slice none 0 0,.slice none 0 0,i64 0,.slice none 0 0,.slice none 0 0,.int .u8 0]) rfl rfl hR hv;rw[hP]at this;exact this
    cases hPiece:by_ ((spR s).S 0 0)==by_ sPiece
    case true=>exact go (Cpi spR szB niR niB szB qiR qiB sPiece) rfl (Cpi_ok sPiece w0 hW0) (rd_Piece (by_inj (by simpa using hPiece)) hc)
    cases hWorth:by_ ((spR s).S 0 0)==by_ sWorth
    case true=>exact go (Crd spR szB niR niB szB qiR qiB sWorth) rfl (Crd_ok sWorth w0 hW0) (rd_Worth (by_inj (by simpa using hWorth)) hc)
    cases hCake:by_ ((spR s).S 0 0)==by_ sCake
    case true=>exact go (Crd spR szB niR niB szB qiR qiB sCake) rfl (Crd_ok sCake w0 hW0) (rd_Cake (by_inj (by simpa using hCake)) hc)
    cases hValues:by_ ((spR s).S 0 0)==by_ sValues
    case true=>exact go (Crd spR szB niR niB szB qiR qiB sValues) rfl (Crd_ok sValues w0 hW0) (rd_Values (by_inj (by simpa using hValues)) hc)
    cases hGive:by_ ((spR s).S 0 0)==by_ sGive
    case true=>exact go (Crd spR szB niR niB szB qiR qiB sGive) rfl (Crd_ok sGive w0 hW0) (rd_Give (by_inj (by simpa using hGive)) hc)
    cases hRent:by_ ((spR s).S 0 0)==by_ sRent
    case true=>exact go (Crd spR szB niR niB szB qiR qiB sRent) rfl (Crd_ok sRent w0 hW0) (rd_Rent (by_inj (by simpa using hRent)) hc)
    cases hRooms:by_ ((spR s).S 0 0)==by_ sRooms
    case true=>exact go (Crd spR szB niR niB szB qiR qiB sRooms) rfl (Crd_ok sRooms w0 hW0) (rd_Rooms (by_inj (by simpa using hRooms)) hc)
    cases hPrices:by_ ((spR s).S 0 0)==by_ sPrices
    case true=>exact go (Crd spR szB niR niB szB qiR qiB sPrices) rfl (Crd_ok sPrices w0 hW0) (rd_Prices (by_inj (by simpa using hPrices)) hc)
    cases hBalances:by_ ((spR s).S 0 0)==by_ sBalances
    case true=>exact go (Crd spR szB niR niB szB qiR qiB sBalances) rfl (Crd_ok sBalances w0 hW0) (rd_Balances (by_inj (by simpa using hBalances)) hc)
    cases hPay:by_ ((spR s).S 0 0)==by_ sPay
    case true=>exact go (Crd spR szB niR niB szB qiR qiB sPay) rfl (Crd_ok sPay w0 hW0) (rd_Pay (by_inj (by simpa using hPay)) hc)
    cases hClaims:by_ ((spR s).S 0 0)==by_ sClaims
    case true=>exact go (Crd spR szB niR niB szB qiR qiB sClaims) rfl (Crd_ok sClaims w0 hW0) (rd_Claims (by_inj (by simpa using hClaims)) hc)
    exact go (Cno spR szB niR niB szB qiR qiB) rfl (Cno_ok w0 hW0) (rd_none hPiece hWorth hCake hValues hGive hRent hRooms hPrices hBalances hPay hClaims hc)
   ·cases hF
  ·cases hF
 ·cases hF
end Go.Proofs.YtkcnkimndhgkgaaGreatDoor

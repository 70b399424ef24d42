/- Part of a proof of a statement of this seat. No conditions. -/
import Derived.Test.YtkcnkimndhgkgaaGreatDoorXas
set_option linter.all false
namespace Go.Proofs.YtkcnkimndhgkgaaGreatDoor
open Go.Ev
set_option maxRecDepth 100000
def sR0:ByteArray:=⟨⟨[]⟩⟩
theorem sR0_ok:cbv (CN gT) 20 15 [.v (.string sR0)]=some (true,[.v (.bool true)]):=by kernel_rfl
def sR1:ByteArray:=⟨⟨[100,111,99,117,109,101,110,116,32,103,111,111,100,115]⟩⟩
theorem sR1_ok:cbv (CN gT) 20 15 [.v (.string sR1)]=some (true,[.v (.bool true)]):=by kernel_rfl
def sR2:ByteArray:=⟨⟨[100,111,99,117,109,101,110,116,10]⟩⟩
theorem sR2_ok:cbv (CN gT) 20 15 [.v (.string sR2)]=some (true,[.v (.bool true)]):=by kernel_rfl
def sR3:ByteArray:=⟨⟨[100,111,99,117,109,101,110,116,32,103,111,111,100,115,10]⟩⟩
theorem sR3_ok:cbv (CN gT) 20 15 [.v (.string sR3)]=some (true,[.v (.bool true)]):=by kernel_rfl
def sR4:ByteArray:=⟨⟨[100,111,99,117,109,101,110,116,32,103,111,111,100,115,10,118,97,108,117,101,115,32,51,32,49,10,103,105,118,101,32,48,32,49,10,99,108,97,105,109,115,32,51,50,10]⟩⟩
theorem sR4_ok:cbv (CN gT) 20 15 [.v (.string sR4)]=some (true,[.v (.bool true)]):=by kernel_rfl
def sR5:ByteArray:=⟨⟨[100,111,99,117,109,101,110,116,32,103,111,111,100,115,10,118,97,108,117,101,115,32,51,32,49,10,103,105,118,101,32,48,32,49,10,99,108,97,105,109,115,32,51,49,10]⟩⟩
theorem sR5_ok:cbv (CN gT) 20 15 [.v (.string sR5)]=some (true,[.v (.bool true)]):=by kernel_rfl
def sR6:ByteArray:=⟨⟨[100,111,99,117,109,101,110,116,32,103,111,111,100,115,10,103,105,118,101,32,48,32,48,10,118,97,108,117,101,115,32,51,32,49,10,99,108,97,105,109,115,32,51,49,10]⟩⟩
theorem sR6_ok:cbv (CN gT) 20 15 [.v (.string sR6)]=some (true,[.v (.bool true)]):=by kernel_rfl
def sR7:ByteArray:=⟨⟨[100,111,99,117,109,101,110,116,32,103,111,111,100,115,10,118,97,108,117,101,115,32,51,32,49,10,99,108,97,105,109,115,32,51,49,10,103,105,118,101,32,48,32,48,10]⟩⟩
theorem sR7_ok:cbv (CN gT) 20 15 [.v (.string sR7)]=some (true,[.v (.bool true)]):=by kernel_rfl
def sR8:ByteArray:=⟨⟨[100,111,99,117,109,101,110,116,32,103,111,111,100,115,10,118,97,108,117,101,115,32,48,51,32,49,10,103,105,118,101,32,48,32,48,10,99,108,97,105,109,115,32,51,49,10]⟩⟩
theorem sR8_ok:cbv (CN gT) 20 15 [.v (.string sR8)]=some (true,[.v (.bool true)]):=by kernel_rfl
def sR9:ByteArray:=⟨⟨[100,111,99,117,109,101,110,116,32,103,111,111,100,115,10,118,97,108,117,101,115,32,32,51,32,49,10,103,105,118,101,32,48,32,48,10,99,108,97,105,109,115,32,51,49,10]⟩⟩
theorem sR9_ok:cbv (CN gT) 20 15 [.v (.string sR9)]=some (true,[.v (.bool true)]):=by kernel_rfl
def sR10:ByteArray:=⟨⟨[100,111,99,117,109,101,110,116,32,103,111,111,100,115,10,118,97,108,117,101,115,32,51,32,49,10,103,105,118,101,32,48,32,48,10,99,108,97,105,109,115,32,45,48,10]⟩⟩
theorem sR10_ok:cbv (CN gT) 20 15 [.v (.string sR10)]=some (true,[.v (.bool true)]):=by kernel_rfl
end Go.Proofs.YtkcnkimndhgkgaaGreatDoor

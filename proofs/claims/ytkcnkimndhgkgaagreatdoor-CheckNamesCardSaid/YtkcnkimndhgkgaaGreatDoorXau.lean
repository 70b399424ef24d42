import Derived.Test.YtkcnkimndhgkgaaGreatDoorXat
set_option linter.all false
namespace Go.Proofs.YtkcnkimndhgkgaaGreatDoor
open Go.Ev
set_option maxRecDepth 100000
def sT6:ByteArray:=⟨⟨[100,111,99,117,109,101,110,116,32,114,101,110,116,10,114,101,110,116,32,49,48,48,10,118,97,108,117,101,115,32,55,48,32,53,48,10,118,97,108,117,101,115,32,54,48,32,50,48,10,114,111,111,109,115,32,48,32,49,10,112,114,105,99,101,115,32,49,32,53,48,32,53,48,10,99,108,97,105,109,115,32,48,10]⟩⟩
def rT6:List D:=[.agg [.v (.int .u8 3),.slice kC3 nil3,.slice kP3 nil1,.v (.int .u8 0),.slice kW3 nil1,.slice kV3 nil1,.slice kI3 nil1,.slice kV3 (tabR 2 1 [] [] [(tabR 2 1 [70,50] [] [] noS),(tabR 2 1 [60,20] [] [] noS)] noS),.v (.int .i64 100),.slice kI3 (tabR 2 1 [0,1] [] [] noS),.slice kI3 (tabR 2 1 [50,50] [] [] noS),.v (.int .i64 1),.slice kI3 nil1,.slice kY3 nil3,.v (.int .u8 0)],.slice kF3 nil3,.slice kW3 nil1,.v (.int .i64 0)]
theorem jT6:cbv (CN g7) 26 22 [.v (.string sT6)]=some (true,rT6):=by kernel_rfl
def sT7:ByteArray:=⟨⟨[100,111,99,117,109,101,110,116,32,114,101,110,116,10,114,101,110,116,32,49,48,48,10,118,97,108,117,101,115,32,55,48,32,53,48,10,118,97,108,117,101,115,32,54,48,32,50,48,10,114,111,111,109,115,32,48,32,49,10,112,114,105,99,101,115,32,49,32,53,48,32,53,48,10,99,108,97,105,109,115,32,51,10]⟩⟩
def rT7:List D:=[.agg [.v (.int .u8 3),.slice kC3 nil3,.slice kP3 nil1,.v (.int .u8 0),.slice kW3 nil1,.slice kV3 nil1,.slice kI3 nil1,.slice kV3 (tabR 2 1 [] [] [(tabR 2 1 [70,50] [] [] noS),(tabR 2 1 [60,20] [] [] noS)] noS),.v (.int .i64 100),.slice kI3 (tabR 2 1 [0,1] [] [] noS),.slice kI3 (tabR 2 1 [50,50] [] [] noS),.v (.int .i64 1),.slice kI3 nil1,.slice kY3 nil3,.v (.int .u8 3)],.slice kF3 (tabR 2 3 [1,1,0,2,90,110] [] [] noS),.slice kW3 nil1,.v (.int .i64 0)]
theorem jT7:cbv (CN g7) 26 22 [.v (.string sT7)]=some (true,rT7):=by kernel_rfl
def sT8:ByteArray:=⟨⟨[100,111,99,117,109,101,110,116,32,115,101,116,116,108,101,10,98,97,108,97,110,99,101,115,32,53,32,45,53,32,51,32,45,51,10,112,97,121,32,48,32,51,32,51,10,112,97,121,32,48,32,49,32,50,10,112,97,121,32,50,32,49,32,51,10,99,108,97,105,109,115,32,49,10]⟩⟩
def rT8:List D:=[.agg [.v (.int .u8 4),.slice kC3 nil3,.slice kP3 nil1,.v (.int .u8 0),.slice kW3 nil1,.slice kV3 nil1,.slice kI3 nil1,.slice kV3 nil1,.v (.int .i64 0),.slice kI3 nil1,.slice kI3 nil1,.v (.int .i64 0),.slice kI3 (tabR 4 1 [5,(-5),3,(-3)] [] [] noS),.slice kY3 (tabR 3 3 [0,3,3,0,1,2,2,1,3] [] [] noS),.v (.int .u8 1)],.slice kF3 nil3,.slice kW3 nil1,.v (.int .i64 0)]
theorem jT8:cbv (CN g7) 26 22 [.v (.string sT8)]=some (true,rT8):=by kernel_rfl
def sT9:ByteArray:=⟨⟨[100,111,99,117,109,101,110,116,32,115,101,116,116,108,101,10,98,97,108,97,110,99,101,115,32,53,32,45,53,32,51,32,45,51,10,112,97,121,32,48,32,51,32,51,10,112,97,121,32,48,32,49,32,50,10,112,97,121,32,50,32,49,32,51,10,99,108,97,105,109,115,32,51,10]⟩⟩
def rT9:List D:=[.agg [.v (.int .u8 4),.slice kC3 nil3,.slice kP3 nil1,.v (.int .u8 0),.slice kW3 nil1,.slice kV3 nil1,.slice kI3 nil1,.slice kV3 nil1,.v (.int .i64 0),.slice kI3 nil1,.slice kI3 nil1,.v (.int .i64 0),.slice kI3 (tabR 4 1 [5,(-5),3,(-3)] [] [] noS),.slice kY3 (tabR 3 3 [0,3,3,0,1,2,2,1,3] [] [] noS),.v (.int .u8 3)],.slice kF3 (tabR 1 3 [2,3,2] [] [] noS),.slice kW3 nil1,.v (.int .i64 0)]
theorem jT9:cbv (CN g7) 26 22 [.v (.string sT9)]=some (true,rT9):=by kernel_rfl
def sT10:ByteArray:=⟨⟨[100,111,99,117,109,101,110,116,32,115,101,116,116,108,101,10,98,97,108,97,110,99,101,115,32,53,32,45,53,10,112,97,121,32,48,32,49,32,52,10,99,108,97,105,109,115,32,51,10]⟩⟩
def rT10:List D:=[.agg [.v (.int .u8 4),.slice kC3 nil3,.slice kP3 nil1,.v (.int .u8 0),.slice kW3 nil1,.slice kV3 nil1,.slice kI3 nil1,.slice kV3 nil1,.v (.int .i64 0),.slice kI3 nil1,.slice kI3 nil1,.v (.int .i64 0),.slice kI3 (tabR 2 1 [5,(-5)] [] [] noS),.slice kY3 (tabR 1 3 [0,1,4] [] [] noS),.v (.int .u8 3)],.slice kF3 (tabR 2 3 [1,0,1,2,(-1),(-1)] [] [] noS),.slice kW3 nil1,.v (.int .i64 0)]
theorem jT10:cbv (CN g7) 26 22 [.v (.string sT10)]=some (true,rT10):=by kernel_rfl
def sT11:ByteArray:=⟨⟨[100,111,99,117,109,101,110,116,32,115,101,116,116,108,101,10,98,97,108,97,110,99,101,115,32,48,32,48,10,99,108,97,105,109,115,32,51,10]⟩⟩
def rT11:List D:=[.agg [.v (.int .u8 4),.slice kC3 nil3,.slice kP3 nil1,.v (.int .u8 0),.slice kW3 nil1,.slice kV3 nil1,.slice kI3 nil1,.slice kV3 nil1,.v (.int .i64 0),.slice kI3 nil1,.slice kI3 nil1,.v (.int .i64 0),.slice kI3 (tabR 2 1 [0,0] [] [] noS),.slice kY3 nil3,.v (.int .u8 3)],.slice kF3 nil3,.slice kW3 nil1,.v (.int .i64 0)]
theorem jT11:cbv (CN g7) 26 22 [.v (.string sT11)]=some (true,rT11):=by kernel_rfl
def sT12:ByteArray:=⟨⟨[100,111,99,117,109,101,110,116,32,115,101,116,116,108,101,10,98,97,108,97,110,99,101,115,32,48,32,48,10,112,97,121,32,48,32,49,32,49,10,112,97,121,32,49,32,48,32,49,10,99,108,97,105,109,115,32,50,10]⟩⟩
def rT12:List D:=[.agg [.v (.int .u8 4),.slice kC3 nil3,.slice kP3 nil1,.v (.int .u8 0),.slice kW3 nil1,.slice kV3 nil1,.slice kI3 nil1,.slice kV3 nil1,.v (.int .i64 0),.slice kI3 nil1,.slice kI3 nil1,.v (.int .i64 0),.slice kI3 (tabR 2 1 [0,0] [] [] noS),.slice kY3 (tabR 2 3 [0,1,1,1,0,1] [] [] noS),.v (.int .u8 2)],.slice kF3 (tabR 1 3 [2,2,0] [] [] noS),.slice kW3 nil1,.v (.int .i64 0)]
theorem jT12:cbv (CN g7) 26 22 [.v (.string sT12)]=some (true,rT12):=by kernel_rfl
def sT15:ByteArray:=⟨⟨[]⟩⟩
def rT15:List D:=[.agg [.v (.int .u8 0),.slice kC3 nil3,.slice kP3 nil1,.v (.int .u8 0),.slice kW3 nil1,.slice kV3 nil1,.slice kI3 nil1,.slice kV3 nil1,.v (.int .i64 0),.slice kI3 nil1,.slice kI3 nil1,.v (.int .i64 0),.slice kI3 nil1,.slice kY3 nil3,.v (.int .u8 0)],.slice kF3 nil3,.slice kW3 nil1,.v (.int .i64 12)]
theorem jT15:cbv (CN g7) 26 22 [.v (.string sT15)]=some (true,rT15):=by kernel_rfl
def sT16:ByteArray:=⟨⟨[100,111,99,117,109,101,110,116,32,103,111,111,100,115,10]⟩⟩
def rT16:List D:=[.agg [.v (.int .u8 0),.slice kC3 nil3,.slice kP3 nil1,.v (.int .u8 0),.slice kW3 nil1,.slice kV3 nil1,.slice kI3 nil1,.slice kV3 nil1,.v (.int .i64 0),.slice kI3 nil1,.slice kI3 nil1,.v (.int .i64 0),.slice kI3 nil1,.slice kY3 nil3,.v (.int .u8 0)],.slice kF3 nil3,.slice kW3 nil1,.v (.int .i64 12)]
theorem jT16:cbv (CN g7) 26 22 [.v (.string sT16)]=some (true,rT16):=by kernel_rfl
def sT17:ByteArray:=⟨⟨[100,111,99,117,109,101,110,116]⟩⟩
def rT17:List D:=[.agg [.v (.int .u8 0),.slice kC3 nil3,.slice kP3 nil1,.v (.int .u8 0),.slice kW3 nil1,.slice kV3 nil1,.slice kI3 nil1,.slice kV3 nil1,.v (.int .i64 0),.slice kI3 nil1,.slice kI3 nil1,.v (.int .i64 0),.slice kI3 nil1,.slice kY3 nil3,.v (.int .u8 0)],.slice kF3 nil3,.slice kW3 nil1,.v (.int .i64 12)]
theorem jT17:cbv (CN g7) 26 22 [.v (.string sT17)]=some (true,rT17):=by kernel_rfl
end Go.Proofs.YtkcnkimndhgkgaaGreatDoor

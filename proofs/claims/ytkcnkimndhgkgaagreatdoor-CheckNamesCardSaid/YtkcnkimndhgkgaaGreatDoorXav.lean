import Derived.Test.YtkcnkimndhgkgaaGreatDoorXau
set_option linter.all false
namespace Go.Proofs.YtkcnkimndhgkgaaGreatDoor
open Go.Ev
set_option maxRecDepth 100000
def sT13:ByteArray:=⟨⟨[100,111,99,117,109,101,110,116,32,103,111,111,100,115,10,118,97,108,117,101,115,32,53,32,53,32,49,10,118,97,108,117,101,115,32,48,32,48,32,48,10,103,105,118,101,32,49,32,49,32,45,49,10,99,108,97,105,109,115,32,48,10]⟩⟩
def rT13:List D:=[.agg [.v (.int .u8 2),.slice kC3 nil3,.slice kP3 nil1,.v (.int .u8 0),.slice kW3 nil1,.slice kV3 (tabR 2 1 [] [] [(tabR 3 1 [5,5,1] [] [] noS),(tabR 3 1 [0,0,0] [] [] noS)] noS),.slice kI3 (tabR 3 1 [1,1,(-1)] [] [] noS),.slice kV3 nil1,.v (.int .i64 0),.slice kI3 nil1,.slice kI3 nil1,.v (.int .i64 0),.slice kI3 nil1,.slice kY3 nil3,.v (.int .u8 0)],.slice kF3 nil3,.slice kW3 nil1,.v (.int .i64 0)]
theorem jT13:cbv (CN g7) 26 22 [.v (.string sT13)]=some (true,rT13):=by kernel_rfl
def sT14:ByteArray:=⟨⟨[100,111,99,117,109,101,110,116,32,103,111,111,100,115,10,118,97,108,117,101,115,32,53,32,53,32,49,10,118,97,108,117,101,115,32,48,32,48,32,48,10,103,105,118,101,32,49,32,49,32,45,49,10,99,108,97,105,109,115,32,51,49,10]⟩⟩
def rT14:List D:=[.agg [.v (.int .u8 2),.slice kC3 nil3,.slice kP3 nil1,.v (.int .u8 0),.slice kW3 nil1,.slice kV3 (tabR 2 1 [] [] [(tabR 3 1 [5,5,1] [] [] noS),(tabR 3 1 [0,0,0] [] [] noS)] noS),.slice kI3 (tabR 3 1 [1,1,(-1)] [] [] noS),.slice kV3 nil1,.v (.int .i64 0),.slice kI3 nil1,.slice kI3 nil1,.v (.int .i64 0),.slice kI3 nil1,.slice kY3 nil3,.v (.int .u8 31)],.slice kF3 (tabR 5 3 [1,2,(-1),2,0,1,4,0,(-1),8,0,1,16,0,1] [] [] noS),.slice kW3 nil1,.v (.int .i64 0)]
theorem jT14:cbv (CN g7) 26 22 [.v (.string sT14)]=some (true,rT14):=by kernel_rfl
def sT19:ByteArray:=⟨⟨[100,111,99,117,109,101,110,116,32,103,111,111,100,115,10,118,97,108,117,101,115,32,51,32,49,10,118,97,108,117,101,115,32,51,32,49,10,103,105,118,101,32,48,32,49,10,99,108,97,105,109,115,32,51,49,10]⟩⟩
def rT19:List D:=[.agg [.v (.int .u8 2),.slice kC3 nil3,.slice kP3 nil1,.v (.int .u8 0),.slice kW3 nil1,.slice kV3 (tabR 2 1 [] [] [(tabR 2 1 [3,1] [] [] noS),(tabR 2 1 [3,1] [] [] noS)] noS),.slice kI3 (tabR 2 1 [0,1] [] [] noS),.slice kV3 nil1,.v (.int .i64 0),.slice kI3 nil1,.slice kI3 nil1,.v (.int .i64 0),.slice kI3 nil1,.slice kY3 nil3,.v (.int .u8 31)],.slice kF3 (tabR 2 3 [2,1,0,4,1,(-1)] [] [] noS),.slice kW3 nil1,.v (.int .i64 0)]
theorem jT19:cbv (CN g7) 26 22 [.v (.string sT19)]=some (true,rT19):=by kernel_rfl
def sT20:ByteArray:=⟨⟨[100,111,99,117,109,101,110,116,32,103,111,111,100,115,10,118,97,108,117,101,115,32,51,32,49,10,118,97,108,117,101,115,32,51,32,49,10,103,105,118,101,32,48,32,49,10,99,108,97,105,109,115,32,50,53,10]⟩⟩
def rT20:List D:=[.agg [.v (.int .u8 2),.slice kC3 nil3,.slice kP3 nil1,.v (.int .u8 0),.slice kW3 nil1,.slice kV3 (tabR 2 1 [] [] [(tabR 2 1 [3,1] [] [] noS),(tabR 2 1 [3,1] [] [] noS)] noS),.slice kI3 (tabR 2 1 [0,1] [] [] noS),.slice kV3 nil1,.v (.int .i64 0),.slice kI3 nil1,.slice kI3 nil1,.v (.int .i64 0),.slice kI3 nil1,.slice kY3 nil3,.v (.int .u8 25)],.slice kF3 nil3,.slice kW3 nil1,.v (.int .i64 0)]
theorem jT20:cbv (CN g7) 26 22 [.v (.string sT20)]=some (true,rT20):=by kernel_rfl
end Go.Proofs.YtkcnkimndhgkgaaGreatDoor

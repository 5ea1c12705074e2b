/- Contracts: names. -/
import Derived.Test.YtgjhldabffjiaaaGreatDoorNm
import Derived.Test.YtgjhldabffjiaaaGreatDoorZE
namespace Go.Proofs.YtgjhldabffjiaaaGreatDoor
noncomputable section
open Go Go.Abs
set_option maxRecDepth 100000
def Qq:List UInt8:=[97,98,99,100,101,102,103,104,105,106,107,108,109,110,111,112,113,114,115,116,117,118,119,120,121,122,48,49,50,51,52,53,54,55,56,57,95]
def isLet (b:UInt8):Bool:=Qq.contains b
def isName (s:List UInt8):Bool:=decide (1≤s.length) && decide (s.length≤20) && s.all isLet
end
end Go.Proofs.YtgjhldabffjiaaaGreatDoor

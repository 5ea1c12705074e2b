/- Numbers by name. -/
import Derived.Test.YtgjhldabffjiaaaGreatDoorEnv
import Derived.Test.YtgjhldabffjiaaaGreatDoorZE
namespace Go.Proofs.YtgjhldabffjiaaaGreatDoor
noncomputable section
open Go Go.Abs
set_option maxRecDepth 100000
abbrev rU:Nat:=3
abbrev dS:AFn:=a3
abbrev xL:Nat:=4
abbrev Ar:Nat:=5
abbrev vg:Nat:=6
abbrev c_player_Value:AFn:=a6
abbrev wZ:Nat:=7
abbrev vX:Nat:=8
abbrev nT:Nat:=9
abbrev xM:Nat:=10
abbrev tX:Nat:=13
abbrev c_player_Value_1:AFn:=a13
abbrev f_player_reader_value:Nat:=14
abbrev u6:Nat:=15
abbrev wY:AFn:=a15
abbrev uq:Nat:=16
abbrev rV:Nat:=17
abbrev ny:Nat:=18
abbrev wV:Nat:=26
abbrev sK:Nat:=27
abbrev sM:Nat:=28
abbrev sN:Nat:=29
abbrev c_player_reader_list:AFn:=a29
abbrev xJ:Nat:=30
abbrev qL:Nat:=32
abbrev o9:Nat:=34
abbrev uQ:Nat:=35
abbrev yN:Nat:=36
abbrev o_:Nat:=37
abbrev lT:Nat:=38
abbrev qo:Nat:=58
abbrev Bb:Nat:=59
abbrev wU:Nat:=60
abbrev zA:Nat:=62
abbrev uR:Nat:=63
abbrev rO:Nat:=67
abbrev qx:Nat:=69
abbrev sH:Nat:=100
abbrev rE:Nat:=101
abbrev c_internal_strconv_ParseUint:AFn:=QN
abbrev rT:Nat:=102
abbrev nC:Nat:=123
abbrev f_internal_strconv_lower:Nat:=148
abbrev ql:Nat:=171
abbrev t_Value:Nat:=24
abbrev La:Nat:=3
abbrev vk:Nat:=53
abbrev t_player_broken:Nat:=43
abbrev t_player_reader:Nat:=46
abbrev jQ:Nat:=50
abbrev Bj:Nat:=119
abbrev zx:Nat:=5
abbrev xk:Nat:=55
theorem w_:E.fn rU=some a3:=by kernel_rfl
theorem Bo:E.fn xL=some a4:=by kernel_rfl
theorem Ep:E.fn vg=some a6:=by kernel_rfl
theorem BY:E.fn wZ=some a7:=by kernel_rfl
theorem Bd:E.fn vX=some a8:=by kernel_rfl
theorem BZ:E.fn nT=some a9:=by kernel_rfl
theorem Bp:E.fn xM=some a10:=by kernel_rfl
theorem CY:E.fn tX=some a13:=by kernel_rfl
theorem vK:E.fn f_player_reader_value=some a14:=by kernel_rfl
theorem BV:E.fn u6=some a15:=by kernel_rfl
theorem uw:E.fn uq=some a16:=by kernel_rfl
theorem yA:E.fn rV=some a17:=by kernel_rfl
theorem uy:E.fn ny=some a18:=by kernel_rfl
theorem A9:E.fn wV=some a26:=by kernel_rfl
theorem wB:E.fn sK=some a27:=by kernel_rfl
theorem Ao:E.fn sM=some a28:=by kernel_rfl
theorem Ap:E.fn sN=some a29:=by kernel_rfl
theorem xK:E.fn xJ=some a30:=by kernel_rfl
theorem wz:E.fn qL=some a32:=by kernel_rfl
theorem wX:E.fn o9=some a34:=by kernel_rfl
theorem yV:E.fn uQ=some a35:=by kernel_rfl
theorem Bc:E.fn yN=some a36:=by kernel_rfl
theorem pz:E.fn o_=some a37:=by kernel_rfl
theorem A_:E.fn lT=some a38:=by kernel_rfl
theorem u7:E.fn qo=some a58:=by kernel_rfl
theorem Fx:E.fn Bb=some a59:=by kernel_rfl
theorem A8:E.fn wU=some a60:=by kernel_rfl
theorem y7:E.fn uR=some a63:=by kernel_rfl
theorem rP:E.fn rO=some a67:=by kernel_rfl
theorem uz:E.fn qx=some a69:=by kernel_rfl
theorem xI:E.fn sH=some TP:=by kernel_rfl
theorem wN:E.fn rE=some QN:=by kernel_rfl
theorem w9:E.fn rT=some TQ:=by kernel_rfl
theorem wM:E.fn nC=some TR:=by kernel_rfl
theorem n_internal_strconv_lower:E.fn f_internal_strconv_lower=some a148:=by kernel_rfl
theorem uY:E.fn ql=some a171:=by kernel_rfl
end
end Go.Proofs.YtgjhldabffjiaaaGreatDoor

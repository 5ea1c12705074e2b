/- The program's tie, each closed fact as a theorem of its own. -/
import Derived.Test.YtgjhldabffjiaaaGreatDoorRows
import Derived.LaidByTextLater
import Derived.SevenTiedAt
namespace Go.Proofs.YtgjhldabffjiaaaGreatDoor
noncomputable section
open Go
set_option maxRecDepth 100000
def tl:List (String×DataW Unit):=[("unicode/utf8.acceptRanges",Rows.laid_unicode_utf8_acceptRanges),("internal/strconv.uint64pow10",Rows.laid_internal_strconv_uint64pow10),("math/bits.deBruijn32tab",Rows.laid_math_bits_deBruijn32tab),("math/bits.deBruijn64tab",Rows.laid_math_bits_deBruijn64tab),("strconv.ErrSyntax",Rows.laid_strconv_ErrSyntax),("strconv.ErrRange",Rows.laid_strconv_ErrRange),("foreman/op.kinds",Rows.laid_foreman_op_kinds)]
theorem ab6:Tryz.prog.worded (varsWordLater true)=true:=by kernel_rfl
theorem ab7:Tryz.prog.worded (varsWordLater !true)=false:=by kernel_rfl
theorem ab8:Tryz.prog.worded rootWordLater=true:=by kernel_rfl
theorem ab9:tl.map (fun x=> Tryz.prog.kindOfLater x.1)=([.data,.data,.data,.data,.sentinel,.sentinel,.data]:List LaidKind).map some:=by kernel_rfl
theorem ab_:(Tryz.prog.funcNamed "gosem.cut.vars").isSome=true:=by kernel_rfl
end
end Go.Proofs.YtgjhldabffjiaaaGreatDoor

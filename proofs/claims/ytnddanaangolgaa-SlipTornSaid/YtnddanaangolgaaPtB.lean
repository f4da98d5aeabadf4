/- The sum of bytes, walked. -/
import Derived.Test.YtnddanaangolgaaPtA
import Derived.Test.YtnddanaangolgaaPtCC
set_option linter.unusedSimpArgs false
set_option linter.unusedVariables false
-- @extra s_xor32 s_xorr32 s_and32 s_andr32 s_shr32 s_cn_32 s_quor32 s_remr32 s_subl32 s_not32
namespace Go.Proofs.Ytnddanaangolgaa.V
open Go.RowKit Go.ChangeShapes Go.WideShapes
abbrev u32 (r : BitVec 32) : Value := .int .u32 (r.toNat : Int)
end Go.Proofs.Ytnddanaangolgaa.V

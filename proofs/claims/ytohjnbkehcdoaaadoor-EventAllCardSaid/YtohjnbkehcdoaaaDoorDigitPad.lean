/- Package digit: Pad and its reference. -/
import Derived.Test.YtohjnbkehcdoaaaDoorDigitPut
namespace Go.Proofs.YtohjnbkehcdoaaaDoor
open Go.RowKit
set_option linter.unusedVariables false
set_option linter.unusedSimpArgs false
namespace Digit
def padR (n width : Int) : Str := if n < 0 ∨ width < 0 ∨ 20 < width then [] else List.replicate (width.toNat - (dec n.natAbs).length) 48 ++ dec n.natAbs
end Digit
end Go.Proofs.YtohjnbkehcdoaaaDoor

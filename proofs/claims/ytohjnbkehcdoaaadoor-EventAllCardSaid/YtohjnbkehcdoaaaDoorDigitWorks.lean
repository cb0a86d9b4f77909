/- The examples of the statements of package digit. -/
import Derived.Test.YtohjnbkehcdoaaaDoorDigitRUns
namespace Go.Proofs.YtohjnbkehcdoaaaDoor
open Go.RowKit
set_option linter.unusedVariables false
set_option linter.unusedSimpArgs false
namespace Digit
theorem w1 : readR [49, 48, 57, 57, 53, 49, 49, 54, 50, 55, 55, 55, 54] = (1099511627776, 0) := by decide
theorem w2 : readR [49, 48, 57, 57, 53, 49, 49, 54, 50, 55, 55, 55, 55] = (0, 3) := by decide
theorem w3 : readR [48, 49] = (0, 3) := by decide
theorem w4 : unsP [97, 92, 120, 48, 48, 92, 110] = ([97, 0, 10], 0) := by decide
theorem w5 : unsP [92, 120, 52, 49] = ([], 3) := by decide
theorem w6 : readHexR [102, 101] = (254, 0) := by decide
theorem w7 : putR (-70) = [45, 55, 48] := by simp [putR, dec]
theorem w8 : putR (-9223372036854775808) = [45, 57, 50, 50, 51, 51, 55, 50, 48, 51, 54, 56, 53, 52, 55, 55, 53, 56, 48, 56] := by simp [putR, dec]
theorem w9 : padR 7 3 = [48, 48, 55] := by simp [padR, dec]
theorem w10 : showR [97, 92, 127, 10] = [97, 92, 92, 92, 120, 55, 102, 92, 110] := by decide
end Digit
end Go.Proofs.YtohjnbkehcdoaaaDoor

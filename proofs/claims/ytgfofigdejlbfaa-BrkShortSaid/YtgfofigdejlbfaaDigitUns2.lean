/- Package digit: Unshow. -/
import Derived.Test.YtgfofigdejlbfaaDigitUns
namespace Go.Proofs.Ytgfofigdejlbfaa
open Go.RowKit
set_option linter.unusedVariables false
set_option linter.unusedSimpArgs false
namespace Digit
def unsP (s : Str) : Str × Int := match unsR s with | some o => (o, 0) | none => ([], 3)
theorem unsP_yes {s t out : Str} (h : unsR s = (unsR t).map (out ++ ·)) (ht : t = []) : unsP s = (out, 0) := by
  subst ht
  unfold unsP
  rw [h, show unsR [] = some [] from rfl]
  simp
theorem unsP_no {s t out : Str} (h : unsR s = (unsR t).map (out ++ ·)) (ht : unsR t = none) : unsP s = ([], 3) := by
  unfold unsP
  rw [h, ht]
  rfl
theorem uns_on {s t r out : Str} {c : UInt8} (h : unsR s = (unsR t).map (out ++ ·)) (ht : t = signR c ++ r) : unsR s = (unsR r).map (out ++ [c] ++ ·) := by
  rw [h, ht, unsR_sign]
  cases unsR r <;> simp
end Digit
end Go.Proofs.Ytgfofigdejlbfaa

/- Package digit: the reference's Unshow. -/
import Derived.Test.YtgfofigdejlbfaaDigitUns2
import Derived.Deep.LoopGhost
namespace Go.Proofs.Ytgfofigdejlbfaa
open Go.RowKit
set_option linter.unusedVariables false
set_option linter.unusedSimpArgs false
namespace Digit
theorem conv_one (c : UInt8) (k : Nat) (hk : c.toNat = k) (W : World) (b : Nat) (h1 : W.cell? ⟨b, 0, none⟩ = some (.int .u8 k)) :
    (convert 46 9 (.slice (some ⟨b, 0, none⟩) 1 1)).run Try.prog W = .ok (.string ⟨#[c]⟩) W := by
  refine run_convert_bytes_back W 46 9 5 ⟨b, 0, none⟩ 1 [c] Try.underlying46 Try.underlying5 Try.underlying9 fun j hj => ?_
  have : j = 0 := by simpa using hj
  subst this
  rw [add_zero, h1, ← hk]
  rfl
theorem take_sign {t : Str} {g : Str} (hl : g.length ≤ t.length) (h : t.take g.length = g) : t = g ++ t.drop g.length := by
  conv => lhs; rw [← List.take_append_drop g.length t, h]
/-- The inner loop: what was found among the first k. -/
def Fnd (t out : Str) (k : Nat) (t' out' : Str) (f : Bool) : Prop :=
  if f = true then ∃ c, t = signR c ++ t' ∧ out' = out ++ [c] else t' = t ∧ out' = out ∧ ∀ j, j < k → ∀ r, t ≠ signR (UInt8.ofNat j) ++ r
end Digit
end Go.Proofs.Ytgfofigdejlbfaa

/- The examples of the statements of package runner. -/
import Derived.Test.YtnfkkonmhinlcaaRunAt
namespace Go.Proofs.Ytnfkkonmhinlcaa
open Go.RowKit
set_option linter.unusedVariables false
set_option linter.unusedSimpArgs false
namespace Run
abbrev L5 : List O := [(1, [97], 0), (2, [], 3), (3, [], 0), (1, [98], 0), (2, [], 2)]
theorem fit5 : Fit L5 10 := ⟨by decide, by decide, by decide, by
  intro x hx
  simp at hx
  rcases hx with rfl | rfl | rfl | rfl | rfl <;> exact ⟨by decide, by unfold maxLen; decide, by decide⟩⟩
end Run
end Go.Proofs.Ytnfkkonmhinlcaa

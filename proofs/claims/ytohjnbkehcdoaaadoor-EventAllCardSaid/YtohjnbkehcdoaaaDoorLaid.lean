/- The package variable errors.errorType as the card's condition has it: its cell, and a world that meets the condition. After the kit's worked example ToyasProofs. -/
import Derived.Test.YtohjnbkehcdoaaaDoorRows
import Derived.Test.YtohjnbkehcdoaaaDoorEvN
import Derived.ChangeSame
import Derived.ChangeVars
import Derived.JoinedOf
import Derived.RowKit
import Derived.RowKitTokens
import Derived.LaidLaws
import Derived.LaidHandle
import Derived.Stop.Joined
namespace Go.Proofs.YtohjnbkehcdoaaaDoor
open Go.ChangeShapes Go.WideShapes Go.RowKit
namespace Laid
def vars : List (String × DataW Unit) := [("errors.errorType", Rows.laid_errors_errorType)]
theorem et : Tryd.prog.globalNamed "errors.errorType" = some 0 := by kernel_rfl
/-- The name that the datum bears. -/
def rtn : String := match (Rows.laid_errors_errorType : DataW Unit) with
  | .iface n _ => n
  | _ => ""
theorem rt : (Tryd.prog.cutTypes.find? (·.1 == rtn)).map (·.2) = some 98 := by kernel_rfl
theorem oneRow : ((List.range 143).filter fun t => Tryd.prog.rowNamed t [101, 114, 114, 111, 114]) = [35] := by kernel_rfl
theorem size : Tryd.prog.types.size = 143 := by kernel_rfl
theorem handle_of_laid {W : World} (h : laidMetH Tryd.prog vars W) : Ev.EtAt W := by
  have h' : laidMet Tryd.prog [] W ∧ handlesMet Tryd.prog vars W := h
  obtain ⟨name, u, ty, e1, e2, e3, e4, e5⟩ := h'.2 _ (List.mem_singleton.2 rfl)
  have en : name = [101, 114, 114, 111, 114] := (Option.some.inj e1).symm
  subst en
  obtain rfl := Option.some.inj (rt.symm.trans e2)
  have hm : ty ∈ (List.range 143).filter fun t => Tryd.prog.rowNamed t [101, 114, 114, 111, 114] := List.mem_filter.2 ⟨List.mem_range.2 (by rw [← size]; exact e3), e4⟩
  rw [oneRow] at hm
  obtain rfl := List.mem_singleton.1 hm
  have hh : typeHandle Tryd.prog 35 = .pointer (some ⟨1, 35, none⟩) := by kernel_rfl
  rw [hh] at e5
  unfold Ev.EtAt
  simpa using World.var?_cell et e5 0
noncomputable def laidWorld (os : Os) : World :=
  let w0 := World.holding Tryd.prog os ⟨#[], #[], []⟩
  { w0 with heap := w0.heap.modify 0 fun
      | .cells _ t frozen => .cells #[.iface 98 (.agg #[.pointer (some ⟨1, 35, none⟩)])] t frozen
      | o => o }
theorem laidWorld_met (os : Os) (args : Array Value) : laidMetH Tryd.prog vars ((laidWorld os).forCall (fun _ _ => 0) ⟨#[], args, []⟩).memory :=
  laidMetH_of_parts (laidMet_nil _ _) (by kernel_rfl)
end Laid
end Go.Proofs.YtohjnbkehcdoaaaDoor

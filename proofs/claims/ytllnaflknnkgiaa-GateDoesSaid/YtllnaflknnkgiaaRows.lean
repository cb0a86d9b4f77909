/-
  No cell of these rows narrows 'for every input' (looked for: loops, veiled, ifaces, maps, wideKeys, modest, calm, conditions, laid).
  DERIVED. THE GIVEN ROWS OF THIS SEAT. 10 by the template 'for every input the law returns true; each argument reads behind the call as it read before'; 0 by the template 'total and deterministic' (their statements: YtllnaflknnkgiaaTotals.lean).
  GIVEN WITH THE SEED: the statements are not yours to turn. If you find one false, say at which input.
  Laid BY PROGRAM, IN A SANDBOX (cutbox-rows.mjs): the forced cells as the released guide's own fill.sh prints them over the translation ddf15f27e0e5f59f… (all of the seat's roots in one cut). By AI agents, Wed Nov 11 2026. No macro, syntax, notation, axiom, sorry.
-/
import Derived.Test.YtllnaflknnkgiaaChecked
import GoSem.Claim
import GoSem.ClaimJoined
import GoSem.ClaimMapViews
import Derived.JoinedTies
import Derived.KernelRfl
namespace Go.Proofs.Ytllnaflknnkgiaa
/- THE CELL 'sum', in the pinned program and in every row, IS THE sha256 OF THE DUMP (.gsa) THAT YtllnaflknnkgiaaProg.lean LOADS. Nothing in Lean hashes anything: it is a label: what it is worth is what the hold of that sum in a sandbox is worth. -/
noncomputable def Try.pinned : Pinned := { name := "ytllnaflknnkgiaa", sum := "ddf15f27e0e5f59f75d2bd9547d7a854359fa706716102ad20b9e67c9d557f1d", checked := Try.checked }
namespace Rows
def none {H : Type} : Left H := { results := [], args := [] }

/-- 'wheelhouselaw36.GateDoes': WHATEVER THE INPUT: true; the input reads as it did. -/
def gateDoesSpec : ChangeSpec := { name := "gateDoes", fn := fun _ => fun
  | [d1, d2, d3, d4, d5] => { results := [.lit (.bool true)], args := [d1, d2, d3, d4, d5] }
  | _ => none }
def gateDoesRow : OpenClaim := { program := "ytllnaflknnkgiaa", sum := "ddf15f27e0e5f59f75d2bd9547d7a854359fa706716102ad20b9e67c9d557f1d", func := "wheelhouse/wheelhouselaw36.GateDoes", spec := "gateDoes", unfollowed := true, recurses := true, apart := false }
def GateDoesSaid : Prop := gateDoesRow.holds Try.pinned (OpenSpec.ofChange gateDoesSpec)

/-- ITS FALSE NEIGHBOUR: 'it returns false'. Refute it at one input. -/
def gateDoesWrong : ChangeSpec := { name := "gateDoes", fn := fun _ => fun
  | [d1, d2, d3, d4, d5] => { results := [.lit (.bool false)], args := [d1, d2, d3, d4, d5] }
  | _ => none }
def GateDoesWrongFalsely : Prop := gateDoesRow.holds Try.pinned (OpenSpec.ofChange gateDoesWrong)

/-- 'wheelhouselaw36.GateKeeps': WHATEVER THE INPUT: true; the input reads as it did. -/
def gateKeepsSpec : ChangeSpec := { name := "gateKeeps", fn := fun _ => fun
  | [d1, d2, d3] => { results := [.lit (.bool true)], args := [d1, d2, d3] }
  | _ => none }
def gateKeepsRow : OpenClaim := { program := "ytllnaflknnkgiaa", sum := "ddf15f27e0e5f59f75d2bd9547d7a854359fa706716102ad20b9e67c9d557f1d", func := "wheelhouse/wheelhouselaw36.GateKeeps", spec := "gateKeeps", unfollowed := true, recurses := true, apart := false }
def GateKeepsSaid : Prop := gateKeepsRow.holds Try.pinned (OpenSpec.ofChange gateKeepsSpec)

/-- ITS FALSE NEIGHBOUR: 'it returns false'. Refute it at one input. -/
def gateKeepsWrong : ChangeSpec := { name := "gateKeeps", fn := fun _ => fun
  | [d1, d2, d3] => { results := [.lit (.bool false)], args := [d1, d2, d3] }
  | _ => none }
def GateKeepsWrongFalsely : Prop := gateKeepsRow.holds Try.pinned (OpenSpec.ofChange gateKeepsWrong)

/-- 'wheelhouselaw36.GateShut': WHATEVER THE INPUT: true; the input reads as it did. -/
def gateShutSpec : ChangeSpec := { name := "gateShut", fn := fun _ => fun
  | [d1, d2] => { results := [.lit (.bool true)], args := [d1, d2] }
  | _ => none }
def gateShutRow : OpenClaim := { program := "ytllnaflknnkgiaa", sum := "ddf15f27e0e5f59f75d2bd9547d7a854359fa706716102ad20b9e67c9d557f1d", func := "wheelhouse/wheelhouselaw36.GateShut", spec := "gateShut", unfollowed := true, recurses := true, apart := false }
def GateShutSaid : Prop := gateShutRow.holds Try.pinned (OpenSpec.ofChange gateShutSpec)

/-- ITS FALSE NEIGHBOUR: 'it returns false'. Refute it at one input. -/
def gateShutWrong : ChangeSpec := { name := "gateShut", fn := fun _ => fun
  | [d1, d2] => { results := [.lit (.bool false)], args := [d1, d2] }
  | _ => none }
def GateShutWrongFalsely : Prop := gateShutRow.holds Try.pinned (OpenSpec.ofChange gateShutWrong)

/-- 'wheelhouselaw16.RightsTells': WHATEVER THE INPUT: true; the input reads as it did. -/
def rightsTellsSpec : ChangeSpec := { name := "rightsTells", fn := fun _ => fun
  | [d1, d2, d3, d4, d5] => { results := [.lit (.bool true)], args := [d1, d2, d3, d4, d5] }
  | _ => none }
def rightsTellsRow : OpenClaim := { program := "ytllnaflknnkgiaa", sum := "ddf15f27e0e5f59f75d2bd9547d7a854359fa706716102ad20b9e67c9d557f1d", func := "wheelhouse/wheelhouselaw16.RightsTells", spec := "rightsTells", unfollowed := true, recurses := true, apart := false }
def RightsTellsSaid : Prop := rightsTellsRow.holds Try.pinned (OpenSpec.ofChange rightsTellsSpec)

/-- ITS FALSE NEIGHBOUR: 'it returns false'. Refute it at one input. -/
def rightsTellsWrong : ChangeSpec := { name := "rightsTells", fn := fun _ => fun
  | [d1, d2, d3, d4, d5] => { results := [.lit (.bool false)], args := [d1, d2, d3, d4, d5] }
  | _ => none }
def RightsTellsWrongFalsely : Prop := rightsTellsRow.holds Try.pinned (OpenSpec.ofChange rightsTellsWrong)

/-- 'wheelhouselaw16.RightsFirst': WHATEVER THE INPUT: true; the input reads as it did. -/
def rightsFirstSpec : ChangeSpec := { name := "rightsFirst", fn := fun _ => fun
  | [d1, d2, d3, d4] => { results := [.lit (.bool true)], args := [d1, d2, d3, d4] }
  | _ => none }
def rightsFirstRow : OpenClaim := { program := "ytllnaflknnkgiaa", sum := "ddf15f27e0e5f59f75d2bd9547d7a854359fa706716102ad20b9e67c9d557f1d", func := "wheelhouse/wheelhouselaw16.RightsFirst", spec := "rightsFirst", unfollowed := true, recurses := true, apart := false }
def RightsFirstSaid : Prop := rightsFirstRow.holds Try.pinned (OpenSpec.ofChange rightsFirstSpec)

/-- ITS FALSE NEIGHBOUR: 'it returns false'. Refute it at one input. -/
def rightsFirstWrong : ChangeSpec := { name := "rightsFirst", fn := fun _ => fun
  | [d1, d2, d3, d4] => { results := [.lit (.bool false)], args := [d1, d2, d3, d4] }
  | _ => none }
def RightsFirstWrongFalsely : Prop := rightsFirstRow.holds Try.pinned (OpenSpec.ofChange rightsFirstWrong)

/-- 'wheelhouselaw03.ClockStamps': WHATEVER THE INPUT: true; the input reads as it did. -/
def clockStampsSpec : ChangeSpec := { name := "clockStamps", fn := fun _ => fun
  | [d] => { results := [.lit (.bool true)], args := [d] }
  | _ => none }
def clockStampsRow : OpenClaim := { program := "ytllnaflknnkgiaa", sum := "ddf15f27e0e5f59f75d2bd9547d7a854359fa706716102ad20b9e67c9d557f1d", func := "wheelhouse/wheelhouselaw03.ClockStamps", spec := "clockStamps", recurses := true, apart := false }
def ClockStampsSaid : Prop := clockStampsRow.holds Try.pinned (OpenSpec.ofChange clockStampsSpec)

/-- ITS FALSE NEIGHBOUR: 'it returns false'. Refute it at one input. -/
def clockStampsWrong : ChangeSpec := { name := "clockStamps", fn := fun _ => fun
  | [d] => { results := [.lit (.bool false)], args := [d] }
  | _ => none }
def ClockStampsWrongFalsely : Prop := clockStampsRow.holds Try.pinned (OpenSpec.ofChange clockStampsWrong)

/-- 'wheelhouselaw03.ClockReads': WHATEVER THE INPUT: true; the input reads as it did. -/
def clockReadsSpec : ChangeSpec := { name := "clockReads", fn := fun _ => fun
  | [d1, d2] => { results := [.lit (.bool true)], args := [d1, d2] }
  | _ => none }
def clockReadsRow : OpenClaim := { program := "ytllnaflknnkgiaa", sum := "ddf15f27e0e5f59f75d2bd9547d7a854359fa706716102ad20b9e67c9d557f1d", func := "wheelhouse/wheelhouselaw03.ClockReads", spec := "clockReads", recurses := true, apart := false }
def ClockReadsSaid : Prop := clockReadsRow.holds Try.pinned (OpenSpec.ofChange clockReadsSpec)

/-- ITS FALSE NEIGHBOUR: 'it returns false'. Refute it at one input. -/
def clockReadsWrong : ChangeSpec := { name := "clockReads", fn := fun _ => fun
  | [d1, d2] => { results := [.lit (.bool false)], args := [d1, d2] }
  | _ => none }
def ClockReadsWrongFalsely : Prop := clockReadsRow.holds Try.pinned (OpenSpec.ofChange clockReadsWrong)

/-- 'wheelhouselaw03.ClockOrder': WHATEVER THE INPUT: true; the input reads as it did. -/
def clockOrderSpec : ChangeSpec := { name := "clockOrder", fn := fun _ => fun
  | [d1, d2] => { results := [.lit (.bool true)], args := [d1, d2] }
  | _ => none }
def clockOrderRow : OpenClaim := { program := "ytllnaflknnkgiaa", sum := "ddf15f27e0e5f59f75d2bd9547d7a854359fa706716102ad20b9e67c9d557f1d", func := "wheelhouse/wheelhouselaw03.ClockOrder", spec := "clockOrder", apart := false }
def ClockOrderSaid : Prop := clockOrderRow.holds Try.pinned (OpenSpec.ofChange clockOrderSpec)

/-- ITS FALSE NEIGHBOUR: 'it returns false'. Refute it at one input. -/
def clockOrderWrong : ChangeSpec := { name := "clockOrder", fn := fun _ => fun
  | [d1, d2] => { results := [.lit (.bool false)], args := [d1, d2] }
  | _ => none }
def ClockOrderWrongFalsely : Prop := clockOrderRow.holds Try.pinned (OpenSpec.ofChange clockOrderWrong)

/-- 'wheelhouselaw03.ClockSpans': WHATEVER THE INPUT: true; the input reads as it did. -/
def clockSpansSpec : ChangeSpec := { name := "clockSpans", fn := fun _ => fun
  | [d] => { results := [.lit (.bool true)], args := [d] }
  | _ => none }
def clockSpansRow : OpenClaim := { program := "ytllnaflknnkgiaa", sum := "ddf15f27e0e5f59f75d2bd9547d7a854359fa706716102ad20b9e67c9d557f1d", func := "wheelhouse/wheelhouselaw03.ClockSpans", spec := "clockSpans", recurses := true, apart := false }
def ClockSpansSaid : Prop := clockSpansRow.holds Try.pinned (OpenSpec.ofChange clockSpansSpec)

/-- ITS FALSE NEIGHBOUR: 'it returns false'. Refute it at one input. -/
def clockSpansWrong : ChangeSpec := { name := "clockSpans", fn := fun _ => fun
  | [d] => { results := [.lit (.bool false)], args := [d] }
  | _ => none }
def ClockSpansWrongFalsely : Prop := clockSpansRow.holds Try.pinned (OpenSpec.ofChange clockSpansWrong)

/-- 'wheelhouselaw16.RightsPicks': WHATEVER THE INPUT: true; the input reads as it did. -/
def rightsPicksSpec : ChangeSpec := { name := "rightsPicks", fn := fun _ => fun
  | [d1, d2, d3] => { results := [.lit (.bool true)], args := [d1, d2, d3] }
  | _ => none }
def rightsPicksRow : OpenClaim := { program := "ytllnaflknnkgiaa", sum := "ddf15f27e0e5f59f75d2bd9547d7a854359fa706716102ad20b9e67c9d557f1d", func := "wheelhouse/wheelhouselaw16.RightsPicks", spec := "rightsPicks", unfollowed := true, recurses := true, apart := false }
def RightsPicksSaid : Prop := rightsPicksRow.holds Try.pinned (OpenSpec.ofChange rightsPicksSpec)

/-- ITS FALSE NEIGHBOUR: 'it returns false'. Refute it at one input. -/
def rightsPicksWrong : ChangeSpec := { name := "rightsPicks", fn := fun _ => fun
  | [d1, d2, d3] => { results := [.lit (.bool false)], args := [d1, d2, d3] }
  | _ => none }
def RightsPicksWrongFalsely : Prop := rightsPicksRow.holds Try.pinned (OpenSpec.ofChange rightsPicksWrong)

/- THE SECOND FORM. 'bulk': how many values and letters a reading holds, each counted each time it is reached (what is shared counts as often as it is met; a slice's spare places count too). A statement '..UptoSaid' is the law's where the arguments, and the package variables that the reading takes, are together of bulk at most 1048576: NARROWER than '..Said'. Prove '..Said' where nothing that the law and all that it calls make is longer than what came in: it says more and counts as full. Else prove '..UptoSaid'. A law counts once. -/
mutual
def uptoBulk {H : Type} : DataW H → Nat
  | .lit (.string bytes) => bytes.length + 1
  | .lit _ => 1
  | .nil => 1
  | .ptr d => uptoBulk d + 1
  | .slice elems spare => uptoBulkAll elems + uptoBulkAll spare + 1
  | .agg parts => uptoBulkAll parts + 1
  | .iface _ d => uptoBulk d + 1
  | .map entries => uptoBulkEntries entries + 1
  | .held _ => 1
def uptoBulkAll {H : Type} : List (DataW H) → Nat
  | [] => 0
  | d :: r => uptoBulk d + uptoBulkAll r
def uptoBulkEntries {H : Type} : List (Lit × DataW H) → Nat
  | [] => 0
  | x :: r => uptoBulkEntry x + uptoBulkEntries r
def uptoBulkEntry {H : Type} : Lit × DataW H → Nat
  | (.string bytes, d) => bytes.length + uptoBulk d + 1
  | (_, d) => uptoBulk d + 1
 end
def uptoSmall : (H : Type) → List (DataW H) → Bool := fun _ ds => decide (uptoBulkAll ds ≤ 1048576)
def OpenSpec.upto (s : _root_.Go.ChangeSpec) : _root_.Go.OpenSpec := { _root_.Go.OpenSpec.ofChange s with cond := some uptoSmall }

/-- 'wheelhouselaw36.GateDoes', WHERE WHAT IT READS IS OF BULK AT MOST 1048576: true; the input reads as it did. -/
def gateDoesUptoRow : OpenClaim := { program := "ytllnaflknnkgiaa", sum := "ddf15f27e0e5f59f75d2bd9547d7a854359fa706716102ad20b9e67c9d557f1d", func := "wheelhouse/wheelhouselaw36.GateDoes", spec := "gateDoes", unfollowed := true, recurses := true, apart := false, narrowed := true }
def GateDoesUptoSaid : Prop := gateDoesUptoRow.holds Try.pinned (OpenSpec.upto gateDoesSpec)

/-- 'wheelhouselaw36.GateKeeps', WHERE WHAT IT READS IS OF BULK AT MOST 1048576: true; the input reads as it did. -/
def gateKeepsUptoRow : OpenClaim := { program := "ytllnaflknnkgiaa", sum := "ddf15f27e0e5f59f75d2bd9547d7a854359fa706716102ad20b9e67c9d557f1d", func := "wheelhouse/wheelhouselaw36.GateKeeps", spec := "gateKeeps", unfollowed := true, recurses := true, apart := false, narrowed := true }
def GateKeepsUptoSaid : Prop := gateKeepsUptoRow.holds Try.pinned (OpenSpec.upto gateKeepsSpec)

/-- 'wheelhouselaw36.GateShut', WHERE WHAT IT READS IS OF BULK AT MOST 1048576: true; the input reads as it did. -/
def gateShutUptoRow : OpenClaim := { program := "ytllnaflknnkgiaa", sum := "ddf15f27e0e5f59f75d2bd9547d7a854359fa706716102ad20b9e67c9d557f1d", func := "wheelhouse/wheelhouselaw36.GateShut", spec := "gateShut", unfollowed := true, recurses := true, apart := false, narrowed := true }
def GateShutUptoSaid : Prop := gateShutUptoRow.holds Try.pinned (OpenSpec.upto gateShutSpec)

/-- 'wheelhouselaw16.RightsTells', WHERE WHAT IT READS IS OF BULK AT MOST 1048576: true; the input reads as it did. -/
def rightsTellsUptoRow : OpenClaim := { program := "ytllnaflknnkgiaa", sum := "ddf15f27e0e5f59f75d2bd9547d7a854359fa706716102ad20b9e67c9d557f1d", func := "wheelhouse/wheelhouselaw16.RightsTells", spec := "rightsTells", unfollowed := true, recurses := true, apart := false, narrowed := true }
def RightsTellsUptoSaid : Prop := rightsTellsUptoRow.holds Try.pinned (OpenSpec.upto rightsTellsSpec)

/-- 'wheelhouselaw16.RightsFirst', WHERE WHAT IT READS IS OF BULK AT MOST 1048576: true; the input reads as it did. -/
def rightsFirstUptoRow : OpenClaim := { program := "ytllnaflknnkgiaa", sum := "ddf15f27e0e5f59f75d2bd9547d7a854359fa706716102ad20b9e67c9d557f1d", func := "wheelhouse/wheelhouselaw16.RightsFirst", spec := "rightsFirst", unfollowed := true, recurses := true, apart := false, narrowed := true }
def RightsFirstUptoSaid : Prop := rightsFirstUptoRow.holds Try.pinned (OpenSpec.upto rightsFirstSpec)

/-- 'wheelhouselaw03.ClockStamps', WHERE WHAT IT READS IS OF BULK AT MOST 1048576: true; the input reads as it did. -/
def clockStampsUptoRow : OpenClaim := { program := "ytllnaflknnkgiaa", sum := "ddf15f27e0e5f59f75d2bd9547d7a854359fa706716102ad20b9e67c9d557f1d", func := "wheelhouse/wheelhouselaw03.ClockStamps", spec := "clockStamps", recurses := true, apart := false, narrowed := true }
def ClockStampsUptoSaid : Prop := clockStampsUptoRow.holds Try.pinned (OpenSpec.upto clockStampsSpec)

/-- 'wheelhouselaw03.ClockReads', WHERE WHAT IT READS IS OF BULK AT MOST 1048576: true; the input reads as it did. -/
def clockReadsUptoRow : OpenClaim := { program := "ytllnaflknnkgiaa", sum := "ddf15f27e0e5f59f75d2bd9547d7a854359fa706716102ad20b9e67c9d557f1d", func := "wheelhouse/wheelhouselaw03.ClockReads", spec := "clockReads", recurses := true, apart := false, narrowed := true }
def ClockReadsUptoSaid : Prop := clockReadsUptoRow.holds Try.pinned (OpenSpec.upto clockReadsSpec)

/-- 'wheelhouselaw03.ClockOrder', WHERE WHAT IT READS IS OF BULK AT MOST 1048576: true; the input reads as it did. -/
def clockOrderUptoRow : OpenClaim := { program := "ytllnaflknnkgiaa", sum := "ddf15f27e0e5f59f75d2bd9547d7a854359fa706716102ad20b9e67c9d557f1d", func := "wheelhouse/wheelhouselaw03.ClockOrder", spec := "clockOrder", apart := false, narrowed := true }
def ClockOrderUptoSaid : Prop := clockOrderUptoRow.holds Try.pinned (OpenSpec.upto clockOrderSpec)

/-- 'wheelhouselaw03.ClockSpans', WHERE WHAT IT READS IS OF BULK AT MOST 1048576: true; the input reads as it did. -/
def clockSpansUptoRow : OpenClaim := { program := "ytllnaflknnkgiaa", sum := "ddf15f27e0e5f59f75d2bd9547d7a854359fa706716102ad20b9e67c9d557f1d", func := "wheelhouse/wheelhouselaw03.ClockSpans", spec := "clockSpans", recurses := true, apart := false, narrowed := true }
def ClockSpansUptoSaid : Prop := clockSpansUptoRow.holds Try.pinned (OpenSpec.upto clockSpansSpec)

/-- 'wheelhouselaw16.RightsPicks', WHERE WHAT IT READS IS OF BULK AT MOST 1048576: true; the input reads as it did. -/
def rightsPicksUptoRow : OpenClaim := { program := "ytllnaflknnkgiaa", sum := "ddf15f27e0e5f59f75d2bd9547d7a854359fa706716102ad20b9e67c9d557f1d", func := "wheelhouse/wheelhouselaw16.RightsPicks", spec := "rightsPicks", unfollowed := true, recurses := true, apart := false, narrowed := true }
def RightsPicksUptoSaid : Prop := rightsPicksUptoRow.holds Try.pinned (OpenSpec.upto rightsPicksSpec)

end Rows
end Go.Proofs.Ytllnaflknnkgiaa

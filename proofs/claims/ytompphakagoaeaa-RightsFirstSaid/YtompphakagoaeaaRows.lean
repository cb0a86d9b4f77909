/-
  No cell of these rows narrows 'for every input' (looked for: loops, veiled, ifaces, maps, wideKeys, modest, calm, conditions, laid).
  DERIVED. THE GIVEN ROWS OF THIS SEAT. 3 by the template 'for every input the law returns true; each argument reads behind the call as it read before'; 0 by the template 'total and deterministic' (their statements: YtompphakagoaeaaTotals.lean).
  GIVEN WITH THE SEED: the statements are not yours to turn. If you find one false, say at which input.
  Laid BY PROGRAM, IN A SANDBOX (cutbox-rows.mjs): the forced cells as the released guide's own fill.sh prints them over the translation db3777c55472ac92… (all of the seat's roots in one cut). By AI agents, Wed Nov 11 2026. No macro, syntax, notation, axiom, sorry.
-/
import Derived.Test.YtompphakagoaeaaChecked
import GoSem.Claim
import GoSem.ClaimJoined
import GoSem.ClaimMapViews
import Derived.JoinedTies
import Derived.KernelRfl
namespace Go.Proofs.Ytompphakagoaeaa
/- THE CELL 'sum', in the pinned program and in every row, IS THE sha256 OF THE DUMP (.gsa) THAT YtompphakagoaeaaProg.lean LOADS. Nothing in Lean hashes anything: it is a label: what it is worth is what the hold of that sum in a sandbox is worth. -/
noncomputable def Try.pinned : Pinned := { name := "ytompphakagoaeaa", sum := "db3777c55472ac92733a3c15a70991ba199d22e820338f483a4fc87bca53f4d7", checked := Try.checked }
namespace Rows
def none {H : Type} : Left H := { results := [], args := [] }

/-- 'wheelhouselaw16.RightsTells': WHATEVER THE INPUT: true; the input reads as it did. -/
def rightsTellsSpec : ChangeSpec := { name := "rightsTells", fn := fun _ => fun
  | [d1, d2, d3, d4, d5] => { results := [.lit (.bool true)], args := [d1, d2, d3, d4, d5] }
  | _ => none }
def rightsTellsRow : OpenClaim := { program := "ytompphakagoaeaa", sum := "db3777c55472ac92733a3c15a70991ba199d22e820338f483a4fc87bca53f4d7", func := "wheelhouse/wheelhouselaw16.RightsTells", spec := "rightsTells", unfollowed := true, recurses := true, apart := false }
def RightsTellsSaid : Prop := rightsTellsRow.holds Try.pinned (OpenSpec.ofChange rightsTellsSpec)

/-- ITS FALSE NEIGHBOUR: 'it returns false'. Refute it at one input. -/
def rightsTellsWrong : ChangeSpec := { name := "rightsTells", fn := fun _ => fun
  | [d1, d2, d3, d4, d5] => { results := [.lit (.bool false)], args := [d1, d2, d3, d4, d5] }
  | _ => none }
def RightsTellsWrongFalsely : Prop := rightsTellsRow.holds Try.pinned (OpenSpec.ofChange rightsTellsWrong)

/-- 'wheelhouselaw16.RightsFirst': WHATEVER THE INPUT: true; the input reads as it did. -/
def rightsFirstSpec : ChangeSpec := { name := "rightsFirst", fn := fun _ => fun
  | [d1, d2, d3, d4] => { results := [.lit (.bool true)], args := [d1, d2, d3, d4] }
  | _ => none }
def rightsFirstRow : OpenClaim := { program := "ytompphakagoaeaa", sum := "db3777c55472ac92733a3c15a70991ba199d22e820338f483a4fc87bca53f4d7", func := "wheelhouse/wheelhouselaw16.RightsFirst", spec := "rightsFirst", unfollowed := true, recurses := true, apart := false }
def RightsFirstSaid : Prop := rightsFirstRow.holds Try.pinned (OpenSpec.ofChange rightsFirstSpec)

/-- ITS FALSE NEIGHBOUR: 'it returns false'. Refute it at one input. -/
def rightsFirstWrong : ChangeSpec := { name := "rightsFirst", fn := fun _ => fun
  | [d1, d2, d3, d4] => { results := [.lit (.bool false)], args := [d1, d2, d3, d4] }
  | _ => none }
def RightsFirstWrongFalsely : Prop := rightsFirstRow.holds Try.pinned (OpenSpec.ofChange rightsFirstWrong)

/-- 'wheelhouselaw16.RightsPicks': WHATEVER THE INPUT: true; the input reads as it did. -/
def rightsPicksSpec : ChangeSpec := { name := "rightsPicks", fn := fun _ => fun
  | [d1, d2, d3] => { results := [.lit (.bool true)], args := [d1, d2, d3] }
  | _ => none }
def rightsPicksRow : OpenClaim := { program := "ytompphakagoaeaa", sum := "db3777c55472ac92733a3c15a70991ba199d22e820338f483a4fc87bca53f4d7", func := "wheelhouse/wheelhouselaw16.RightsPicks", spec := "rightsPicks", unfollowed := true, recurses := true, apart := false }
def RightsPicksSaid : Prop := rightsPicksRow.holds Try.pinned (OpenSpec.ofChange rightsPicksSpec)

/-- ITS FALSE NEIGHBOUR: 'it returns false'. Refute it at one input. -/
def rightsPicksWrong : ChangeSpec := { name := "rightsPicks", fn := fun _ => fun
  | [d1, d2, d3] => { results := [.lit (.bool false)], args := [d1, d2, d3] }
  | _ => none }
def RightsPicksWrongFalsely : Prop := rightsPicksRow.holds Try.pinned (OpenSpec.ofChange rightsPicksWrong)

/- THE SECOND FORM. 'bulk': how many values and letters a reading holds, each counted each time it is reached (what is shared counts as often as it is met; a slice's spare places count too). A statement '..UptoSaid' is the law's where the arguments, and the package variables that the reading takes, are together of bulk at most 1048576: NARROWER than '..Said'. Prove '..Said' where nothing that the law and all that it calls make is longer than what came in: it says more and counts as full. Else prove '..UptoSaid'. A law counts once. -/
mutual
def uptoBulk {H : Type} : DataW H → Nat
  | .lit (.string bytes) => bytes.length + 1
  | .lit _ => 1
  | .nil => 1
  | .ptr d => uptoBulk d + 1
  | .slice elems spare => uptoBulkAll elems + uptoBulkAll spare + 1
  | .agg parts => uptoBulkAll parts + 1
  | .iface _ d => uptoBulk d + 1
  | .map entries => uptoBulkEntries entries + 1
  | .held _ => 1
def uptoBulkAll {H : Type} : List (DataW H) → Nat
  | [] => 0
  | d :: r => uptoBulk d + uptoBulkAll r
def uptoBulkEntries {H : Type} : List (Lit × DataW H) → Nat
  | [] => 0
  | x :: r => uptoBulkEntry x + uptoBulkEntries r
def uptoBulkEntry {H : Type} : Lit × DataW H → Nat
  | (.string bytes, d) => bytes.length + uptoBulk d + 1
  | (_, d) => uptoBulk d + 1
 end
def uptoSmall : (H : Type) → List (DataW H) → Bool := fun _ ds => decide (uptoBulkAll ds ≤ 1048576)
def OpenSpec.upto (s : _root_.Go.ChangeSpec) : _root_.Go.OpenSpec := { _root_.Go.OpenSpec.ofChange s with cond := some uptoSmall }

/-- 'wheelhouselaw16.RightsTells', WHERE WHAT IT READS IS OF BULK AT MOST 1048576: true; the input reads as it did. -/
def rightsTellsUptoRow : OpenClaim := { program := "ytompphakagoaeaa", sum := "db3777c55472ac92733a3c15a70991ba199d22e820338f483a4fc87bca53f4d7", func := "wheelhouse/wheelhouselaw16.RightsTells", spec := "rightsTells", unfollowed := true, recurses := true, apart := false, narrowed := true }
def RightsTellsUptoSaid : Prop := rightsTellsUptoRow.holds Try.pinned (OpenSpec.upto rightsTellsSpec)

/-- 'wheelhouselaw16.RightsFirst', WHERE WHAT IT READS IS OF BULK AT MOST 1048576: true; the input reads as it did. -/
def rightsFirstUptoRow : OpenClaim := { program := "ytompphakagoaeaa", sum := "db3777c55472ac92733a3c15a70991ba199d22e820338f483a4fc87bca53f4d7", func := "wheelhouse/wheelhouselaw16.RightsFirst", spec := "rightsFirst", unfollowed := true, recurses := true, apart := false, narrowed := true }
def RightsFirstUptoSaid : Prop := rightsFirstUptoRow.holds Try.pinned (OpenSpec.upto rightsFirstSpec)

/-- 'wheelhouselaw16.RightsPicks', WHERE WHAT IT READS IS OF BULK AT MOST 1048576: true; the input reads as it did. -/
def rightsPicksUptoRow : OpenClaim := { program := "ytompphakagoaeaa", sum := "db3777c55472ac92733a3c15a70991ba199d22e820338f483a4fc87bca53f4d7", func := "wheelhouse/wheelhouselaw16.RightsPicks", spec := "rightsPicks", unfollowed := true, recurses := true, apart := false, narrowed := true }
def RightsPicksUptoSaid : Prop := rightsPicksUptoRow.holds Try.pinned (OpenSpec.upto rightsPicksSpec)

end Rows
end Go.Proofs.Ytompphakagoaeaa

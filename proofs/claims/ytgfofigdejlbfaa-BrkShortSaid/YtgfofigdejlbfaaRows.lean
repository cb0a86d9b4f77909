/-
  No cell of these rows narrows 'for every input' (looked for: loops, veiled, ifaces, maps, wideKeys, modest, calm, conditions, laid).
  DERIVED. THE GIVEN ROWS OF THIS SEAT. 3 by the template 'for every input the law returns true; each argument reads behind the call as it read before'; 0 by the template 'total and deterministic' (their statements: YtgfofigdejlbfaaTotals.lean).
  GIVEN WITH THE SEED: the statements are not yours to turn. If you find one false, say at which input.
  Laid BY PROGRAM, IN A SANDBOX (cutbox-rows.mjs): the forced cells as the released guide's own fill.sh prints them over the translation a9fa0e5288201c64… (all of the seat's roots in one cut). By AI agents, Wed Nov 11 2026. No macro, syntax, notation, axiom, sorry.
-/
import Derived.Test.YtgfofigdejlbfaaChecked
import GoSem.Claim
import GoSem.ClaimJoined
import GoSem.ClaimMapViews
import Derived.JoinedTies
import Derived.KernelRfl
namespace Go.Proofs.Ytgfofigdejlbfaa
/- THE CELL 'sum', in the pinned program and in every row, IS THE sha256 OF THE DUMP (.gsa) THAT YtgfofigdejlbfaaProg.lean LOADS. Nothing in Lean hashes anything: it is a label: what it is worth is what the hold of that sum in a sandbox is worth. -/
noncomputable def Try.pinned : Pinned := { name := "ytgfofigdejlbfaa", sum := "a9fa0e5288201c64f95f4d2f15e5d60dbb861b7660bcabe292b3c38504ee9965", checked := Try.checked }
namespace Rows
def none {H : Type} : Left H := { results := [], args := [] }

/-- 'wheelhouselaw14.BrkReads': WHATEVER THE INPUT: true; the input reads as it did. -/
def brkReadsSpec : ChangeSpec := { name := "brkReads", fn := fun _ => fun
  | [d] => { results := [.lit (.bool true)], args := [d] }
  | _ => none }
def brkReadsRow : OpenClaim := { program := "ytgfofigdejlbfaa", sum := "a9fa0e5288201c64f95f4d2f15e5d60dbb861b7660bcabe292b3c38504ee9965", func := "wheelhouse/wheelhouselaw14.BrkReads", spec := "brkReads", unfollowed := true, recurses := true, apart := false }
def BrkReadsSaid : Prop := brkReadsRow.holds Try.pinned (OpenSpec.ofChange brkReadsSpec)

/-- ITS FALSE NEIGHBOUR: 'it returns false'. Refute it at one input. -/
def brkReadsWrong : ChangeSpec := { name := "brkReads", fn := fun _ => fun
  | [d] => { results := [.lit (.bool false)], args := [d] }
  | _ => none }
def BrkReadsWrongFalsely : Prop := brkReadsRow.holds Try.pinned (OpenSpec.ofChange brkReadsWrong)

/-- 'wheelhouselaw14.BrkPuts': WHATEVER THE INPUT: true; the input reads as it did. -/
def brkPutsSpec : ChangeSpec := { name := "brkPuts", fn := fun _ => fun
  | [d] => { results := [.lit (.bool true)], args := [d] }
  | _ => none }
def brkPutsRow : OpenClaim := { program := "ytgfofigdejlbfaa", sum := "a9fa0e5288201c64f95f4d2f15e5d60dbb861b7660bcabe292b3c38504ee9965", func := "wheelhouse/wheelhouselaw14.BrkPuts", spec := "brkPuts", unfollowed := true, recurses := true, apart := false }
def BrkPutsSaid : Prop := brkPutsRow.holds Try.pinned (OpenSpec.ofChange brkPutsSpec)

/-- ITS FALSE NEIGHBOUR: 'it returns false'. Refute it at one input. -/
def brkPutsWrong : ChangeSpec := { name := "brkPuts", fn := fun _ => fun
  | [d] => { results := [.lit (.bool false)], args := [d] }
  | _ => none }
def BrkPutsWrongFalsely : Prop := brkPutsRow.holds Try.pinned (OpenSpec.ofChange brkPutsWrong)

/-- 'wheelhouselaw14.BrkShort': WHATEVER THE INPUT: true; the input reads as it did. -/
def brkShortSpec : ChangeSpec := { name := "brkShort", fn := fun _ => fun
  | [d] => { results := [.lit (.bool true)], args := [d] }
  | _ => none }
def brkShortRow : OpenClaim := { program := "ytgfofigdejlbfaa", sum := "a9fa0e5288201c64f95f4d2f15e5d60dbb861b7660bcabe292b3c38504ee9965", func := "wheelhouse/wheelhouselaw14.BrkShort", spec := "brkShort", unfollowed := true, recurses := true, apart := false }
def BrkShortSaid : Prop := brkShortRow.holds Try.pinned (OpenSpec.ofChange brkShortSpec)

/-- ITS FALSE NEIGHBOUR: 'it returns false'. Refute it at one input. -/
def brkShortWrong : ChangeSpec := { name := "brkShort", fn := fun _ => fun
  | [d] => { results := [.lit (.bool false)], args := [d] }
  | _ => none }
def BrkShortWrongFalsely : Prop := brkShortRow.holds Try.pinned (OpenSpec.ofChange brkShortWrong)

/- THE SECOND FORM. 'bulk': how many values and letters a reading holds, each counted each time it is reached (what is shared counts as often as it is met; a slice's spare places count too). A statement '..UptoSaid' is the law's where the arguments, and the package variables that the reading takes, are together of bulk at most 1048576: NARROWER than '..Said'. Prove '..Said' where nothing that the law and all that it calls make is longer than what came in: it says more and counts as full. Else prove '..UptoSaid'. A law counts once. -/
mutual
def uptoBulk {H : Type} : DataW H → Nat
  | .lit (.string bytes) => bytes.length + 1
  | .lit _ => 1
  | .nil => 1
  | .ptr d => uptoBulk d + 1
  | .slice elems spare => uptoBulkAll elems + uptoBulkAll spare + 1
  | .agg parts => uptoBulkAll parts + 1
  | .iface _ d => uptoBulk d + 1
  | .map entries => uptoBulkEntries entries + 1
  | .held _ => 1
def uptoBulkAll {H : Type} : List (DataW H) → Nat
  | [] => 0
  | d :: r => uptoBulk d + uptoBulkAll r
def uptoBulkEntries {H : Type} : List (Lit × DataW H) → Nat
  | [] => 0
  | x :: r => uptoBulkEntry x + uptoBulkEntries r
def uptoBulkEntry {H : Type} : Lit × DataW H → Nat
  | (.string bytes, d) => bytes.length + uptoBulk d + 1
  | (_, d) => uptoBulk d + 1
 end
def uptoSmall : (H : Type) → List (DataW H) → Bool := fun _ ds => decide (uptoBulkAll ds ≤ 1048576)
def OpenSpec.upto (s : _root_.Go.ChangeSpec) : _root_.Go.OpenSpec := { _root_.Go.OpenSpec.ofChange s with cond := some uptoSmall }

/-- 'wheelhouselaw14.BrkReads', WHERE WHAT IT READS IS OF BULK AT MOST 1048576: true; the input reads as it did. -/
def brkReadsUptoRow : OpenClaim := { program := "ytgfofigdejlbfaa", sum := "a9fa0e5288201c64f95f4d2f15e5d60dbb861b7660bcabe292b3c38504ee9965", func := "wheelhouse/wheelhouselaw14.BrkReads", spec := "brkReads", unfollowed := true, recurses := true, apart := false, narrowed := true }
def BrkReadsUptoSaid : Prop := brkReadsUptoRow.holds Try.pinned (OpenSpec.upto brkReadsSpec)

/-- 'wheelhouselaw14.BrkPuts', WHERE WHAT IT READS IS OF BULK AT MOST 1048576: true; the input reads as it did. -/
def brkPutsUptoRow : OpenClaim := { program := "ytgfofigdejlbfaa", sum := "a9fa0e5288201c64f95f4d2f15e5d60dbb861b7660bcabe292b3c38504ee9965", func := "wheelhouse/wheelhouselaw14.BrkPuts", spec := "brkPuts", unfollowed := true, recurses := true, apart := false, narrowed := true }
def BrkPutsUptoSaid : Prop := brkPutsUptoRow.holds Try.pinned (OpenSpec.upto brkPutsSpec)

/-- 'wheelhouselaw14.BrkShort', WHERE WHAT IT READS IS OF BULK AT MOST 1048576: true; the input reads as it did. -/
def brkShortUptoRow : OpenClaim := { program := "ytgfofigdejlbfaa", sum := "a9fa0e5288201c64f95f4d2f15e5d60dbb861b7660bcabe292b3c38504ee9965", func := "wheelhouse/wheelhouselaw14.BrkShort", spec := "brkShort", unfollowed := true, recurses := true, apart := false, narrowed := true }
def BrkShortUptoSaid : Prop := brkShortUptoRow.holds Try.pinned (OpenSpec.upto brkShortSpec)

end Rows
end Go.Proofs.Ytgfofigdejlbfaa

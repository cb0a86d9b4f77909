/-
  No cell of these rows narrows 'for every input' (looked for: loops, veiled, ifaces, maps, wideKeys, modest, calm, conditions, laid).
  DERIVED. THE GIVEN ROWS OF THIS SEAT. 6 by the template 'for every input the law returns true; each argument reads behind the call as it read before'; 0 by the template 'total and deterministic' (their statements: YtagkhljcknnhmaaTotals.lean).
  GIVEN WITH THE SEED: the statements are not yours to turn. If you find one false, say at which input.
  Laid BY PROGRAM, IN A SANDBOX (cutbox-rows.mjs): the forced cells as the released guide's own fill.sh prints them over the translation f0692ded2963f931… (all of the seat's roots in one cut). By AI agents, Wed Nov 11 2026. No macro, syntax, notation, axiom, sorry.
-/
import Derived.Test.YtagkhljcknnhmaaChecked
import GoSem.Claim
import GoSem.ClaimJoined
import GoSem.ClaimMapViews
import Derived.JoinedTies
import Derived.KernelRfl
namespace Go.Proofs.Ytagkhljcknnhmaa
/- THE CELL 'sum', in the pinned program and in every row, IS THE sha256 OF THE DUMP (.gsa) THAT YtagkhljcknnhmaaProg.lean LOADS. Nothing in Lean hashes anything: it is a label: what it is worth is what the hold of that sum in a sandbox is worth. -/
noncomputable def Try.pinned : Pinned := { name := "ytagkhljcknnhmaa", sum := "f0692ded2963f93140fdd95002b7b176ac1d2fe4c231ed4840f2d45e7f175f5a", checked := Try.checked }
namespace Rows
def none {H : Type} : Left H := { results := [], args := [] }

/-- 'wheelhouselaw17.RunnerTells': WHATEVER THE INPUT: true; the input reads as it did. -/
def runnerTellsSpec : ChangeSpec := { name := "runnerTells", fn := fun _ => fun
  | [d1, d2, d3] => { results := [.lit (.bool true)], args := [d1, d2, d3] }
  | _ => none }
def runnerTellsRow : OpenClaim := { program := "ytagkhljcknnhmaa", sum := "f0692ded2963f93140fdd95002b7b176ac1d2fe4c231ed4840f2d45e7f175f5a", func := "wheelhouse/wheelhouselaw17.RunnerTells", spec := "runnerTells", unfollowed := true, recurses := true, apart := false }
def RunnerTellsSaid : Prop := runnerTellsRow.holds Try.pinned (OpenSpec.ofChange runnerTellsSpec)

/-- ITS FALSE NEIGHBOUR: 'it returns false'. Refute it at one input. -/
def runnerTellsWrong : ChangeSpec := { name := "runnerTells", fn := fun _ => fun
  | [d1, d2, d3] => { results := [.lit (.bool false)], args := [d1, d2, d3] }
  | _ => none }
def RunnerTellsWrongFalsely : Prop := runnerTellsRow.holds Try.pinned (OpenSpec.ofChange runnerTellsWrong)

/-- 'wheelhouselaw17.RunnerPieces': WHATEVER THE INPUT: true; the input reads as it did. -/
def runnerPiecesSpec : ChangeSpec := { name := "runnerPieces", fn := fun _ => fun
  | [d1, d2] => { results := [.lit (.bool true)], args := [d1, d2] }
  | _ => none }
def runnerPiecesRow : OpenClaim := { program := "ytagkhljcknnhmaa", sum := "f0692ded2963f93140fdd95002b7b176ac1d2fe4c231ed4840f2d45e7f175f5a", func := "wheelhouse/wheelhouselaw17.RunnerPieces", spec := "runnerPieces", unfollowed := true, recurses := true, apart := false }
def RunnerPiecesSaid : Prop := runnerPiecesRow.holds Try.pinned (OpenSpec.ofChange runnerPiecesSpec)

/-- ITS FALSE NEIGHBOUR: 'it returns false'. Refute it at one input. -/
def runnerPiecesWrong : ChangeSpec := { name := "runnerPieces", fn := fun _ => fun
  | [d1, d2] => { results := [.lit (.bool false)], args := [d1, d2] }
  | _ => none }
def RunnerPiecesWrongFalsely : Prop := runnerPiecesRow.holds Try.pinned (OpenSpec.ofChange runnerPiecesWrong)

/-- 'wheelhouselaw17.RunnerNext': WHATEVER THE INPUT: true; the input reads as it did. -/
def runnerNextSpec : ChangeSpec := { name := "runnerNext", fn := fun _ => fun
  | [d1, d2] => { results := [.lit (.bool true)], args := [d1, d2] }
  | _ => none }
def runnerNextRow : OpenClaim := { program := "ytagkhljcknnhmaa", sum := "f0692ded2963f93140fdd95002b7b176ac1d2fe4c231ed4840f2d45e7f175f5a", func := "wheelhouse/wheelhouselaw17.RunnerNext", spec := "runnerNext", unfollowed := true, recurses := true, apart := false }
def RunnerNextSaid : Prop := runnerNextRow.holds Try.pinned (OpenSpec.ofChange runnerNextSpec)

/-- ITS FALSE NEIGHBOUR: 'it returns false'. Refute it at one input. -/
def runnerNextWrong : ChangeSpec := { name := "runnerNext", fn := fun _ => fun
  | [d1, d2] => { results := [.lit (.bool false)], args := [d1, d2] }
  | _ => none }
def RunnerNextWrongFalsely : Prop := runnerNextRow.holds Try.pinned (OpenSpec.ofChange runnerNextWrong)

/-- 'wheelhouselaw28.MuxBack': WHATEVER THE INPUT: true; the input reads as it did. -/
def muxBackSpec : ChangeSpec := { name := "muxBack", fn := fun _ => fun
  | [d1, d2] => { results := [.lit (.bool true)], args := [d1, d2] }
  | _ => none }
def muxBackRow : OpenClaim := { program := "ytagkhljcknnhmaa", sum := "f0692ded2963f93140fdd95002b7b176ac1d2fe4c231ed4840f2d45e7f175f5a", func := "wheelhouse/wheelhouselaw28.MuxBack", spec := "muxBack", unfollowed := true, recurses := true, apart := false }
def MuxBackSaid : Prop := muxBackRow.holds Try.pinned (OpenSpec.ofChange muxBackSpec)

/-- ITS FALSE NEIGHBOUR: 'it returns false'. Refute it at one input. -/
def muxBackWrong : ChangeSpec := { name := "muxBack", fn := fun _ => fun
  | [d1, d2] => { results := [.lit (.bool false)], args := [d1, d2] }
  | _ => none }
def MuxBackWrongFalsely : Prop := muxBackRow.holds Try.pinned (OpenSpec.ofChange muxBackWrong)

/-- 'wheelhouselaw28.MuxSplits': WHATEVER THE INPUT: true; the input reads as it did. -/
def muxSplitsSpec : ChangeSpec := { name := "muxSplits", fn := fun _ => fun
  | [d] => { results := [.lit (.bool true)], args := [d] }
  | _ => none }
def muxSplitsRow : OpenClaim := { program := "ytagkhljcknnhmaa", sum := "f0692ded2963f93140fdd95002b7b176ac1d2fe4c231ed4840f2d45e7f175f5a", func := "wheelhouse/wheelhouselaw28.MuxSplits", spec := "muxSplits", unfollowed := true, recurses := true, apart := false }
def MuxSplitsSaid : Prop := muxSplitsRow.holds Try.pinned (OpenSpec.ofChange muxSplitsSpec)

/-- ITS FALSE NEIGHBOUR: 'it returns false'. Refute it at one input. -/
def muxSplitsWrong : ChangeSpec := { name := "muxSplits", fn := fun _ => fun
  | [d] => { results := [.lit (.bool false)], args := [d] }
  | _ => none }
def MuxSplitsWrongFalsely : Prop := muxSplitsRow.holds Try.pinned (OpenSpec.ofChange muxSplitsWrong)

/-- 'wheelhouselaw28.MuxJoins': WHATEVER THE INPUT: true; the input reads as it did. -/
def muxJoinsSpec : ChangeSpec := { name := "muxJoins", fn := fun _ => fun
  | [d1, d2] => { results := [.lit (.bool true)], args := [d1, d2] }
  | _ => none }
def muxJoinsRow : OpenClaim := { program := "ytagkhljcknnhmaa", sum := "f0692ded2963f93140fdd95002b7b176ac1d2fe4c231ed4840f2d45e7f175f5a", func := "wheelhouse/wheelhouselaw28.MuxJoins", spec := "muxJoins", unfollowed := true, recurses := true, apart := false }
def MuxJoinsSaid : Prop := muxJoinsRow.holds Try.pinned (OpenSpec.ofChange muxJoinsSpec)

/-- ITS FALSE NEIGHBOUR: 'it returns false'. Refute it at one input. -/
def muxJoinsWrong : ChangeSpec := { name := "muxJoins", fn := fun _ => fun
  | [d1, d2] => { results := [.lit (.bool false)], args := [d1, d2] }
  | _ => none }
def MuxJoinsWrongFalsely : Prop := muxJoinsRow.holds Try.pinned (OpenSpec.ofChange muxJoinsWrong)

/- THE SECOND FORM. 'bulk': how many values and letters a reading holds, each counted each time it is reached (what is shared counts as often as it is met; a slice's spare places count too). A statement '..UptoSaid' is the law's where the arguments, and the package variables that the reading takes, are together of bulk at most 1048576: NARROWER than '..Said'. Prove '..Said' where nothing that the law and all that it calls make is longer than what came in: it says more and counts as full. Else prove '..UptoSaid'. A law counts once. -/
mutual
def uptoBulk {H : Type} : DataW H → Nat
  | .lit (.string bytes) => bytes.length + 1
  | .lit _ => 1
  | .nil => 1
  | .ptr d => uptoBulk d + 1
  | .slice elems spare => uptoBulkAll elems + uptoBulkAll spare + 1
  | .agg parts => uptoBulkAll parts + 1
  | .iface _ d => uptoBulk d + 1
  | .map entries => uptoBulkEntries entries + 1
  | .held _ => 1
def uptoBulkAll {H : Type} : List (DataW H) → Nat
  | [] => 0
  | d :: r => uptoBulk d + uptoBulkAll r
def uptoBulkEntries {H : Type} : List (Lit × DataW H) → Nat
  | [] => 0
  | x :: r => uptoBulkEntry x + uptoBulkEntries r
def uptoBulkEntry {H : Type} : Lit × DataW H → Nat
  | (.string bytes, d) => bytes.length + uptoBulk d + 1
  | (_, d) => uptoBulk d + 1
 end
def uptoSmall : (H : Type) → List (DataW H) → Bool := fun _ ds => decide (uptoBulkAll ds ≤ 1048576)
def OpenSpec.upto (s : _root_.Go.ChangeSpec) : _root_.Go.OpenSpec := { _root_.Go.OpenSpec.ofChange s with cond := some uptoSmall }

/-- 'wheelhouselaw17.RunnerTells', WHERE WHAT IT READS IS OF BULK AT MOST 1048576: true; the input reads as it did. -/
def runnerTellsUptoRow : OpenClaim := { program := "ytagkhljcknnhmaa", sum := "f0692ded2963f93140fdd95002b7b176ac1d2fe4c231ed4840f2d45e7f175f5a", func := "wheelhouse/wheelhouselaw17.RunnerTells", spec := "runnerTells", unfollowed := true, recurses := true, apart := false, narrowed := true }
def RunnerTellsUptoSaid : Prop := runnerTellsUptoRow.holds Try.pinned (OpenSpec.upto runnerTellsSpec)

/-- 'wheelhouselaw17.RunnerPieces', WHERE WHAT IT READS IS OF BULK AT MOST 1048576: true; the input reads as it did. -/
def runnerPiecesUptoRow : OpenClaim := { program := "ytagkhljcknnhmaa", sum := "f0692ded2963f93140fdd95002b7b176ac1d2fe4c231ed4840f2d45e7f175f5a", func := "wheelhouse/wheelhouselaw17.RunnerPieces", spec := "runnerPieces", unfollowed := true, recurses := true, apart := false, narrowed := true }
def RunnerPiecesUptoSaid : Prop := runnerPiecesUptoRow.holds Try.pinned (OpenSpec.upto runnerPiecesSpec)

/-- 'wheelhouselaw17.RunnerNext', WHERE WHAT IT READS IS OF BULK AT MOST 1048576: true; the input reads as it did. -/
def runnerNextUptoRow : OpenClaim := { program := "ytagkhljcknnhmaa", sum := "f0692ded2963f93140fdd95002b7b176ac1d2fe4c231ed4840f2d45e7f175f5a", func := "wheelhouse/wheelhouselaw17.RunnerNext", spec := "runnerNext", unfollowed := true, recurses := true, apart := false, narrowed := true }
def RunnerNextUptoSaid : Prop := runnerNextUptoRow.holds Try.pinned (OpenSpec.upto runnerNextSpec)

/-- 'wheelhouselaw28.MuxBack', WHERE WHAT IT READS IS OF BULK AT MOST 1048576: true; the input reads as it did. -/
def muxBackUptoRow : OpenClaim := { program := "ytagkhljcknnhmaa", sum := "f0692ded2963f93140fdd95002b7b176ac1d2fe4c231ed4840f2d45e7f175f5a", func := "wheelhouse/wheelhouselaw28.MuxBack", spec := "muxBack", unfollowed := true, recurses := true, apart := false, narrowed := true }
def MuxBackUptoSaid : Prop := muxBackUptoRow.holds Try.pinned (OpenSpec.upto muxBackSpec)

/-- 'wheelhouselaw28.MuxSplits', WHERE WHAT IT READS IS OF BULK AT MOST 1048576: true; the input reads as it did. -/
def muxSplitsUptoRow : OpenClaim := { program := "ytagkhljcknnhmaa", sum := "f0692ded2963f93140fdd95002b7b176ac1d2fe4c231ed4840f2d45e7f175f5a", func := "wheelhouse/wheelhouselaw28.MuxSplits", spec := "muxSplits", unfollowed := true, recurses := true, apart := false, narrowed := true }
def MuxSplitsUptoSaid : Prop := muxSplitsUptoRow.holds Try.pinned (OpenSpec.upto muxSplitsSpec)

/-- 'wheelhouselaw28.MuxJoins', WHERE WHAT IT READS IS OF BULK AT MOST 1048576: true; the input reads as it did. -/
def muxJoinsUptoRow : OpenClaim := { program := "ytagkhljcknnhmaa", sum := "f0692ded2963f93140fdd95002b7b176ac1d2fe4c231ed4840f2d45e7f175f5a", func := "wheelhouse/wheelhouselaw28.MuxJoins", spec := "muxJoins", unfollowed := true, recurses := true, apart := false, narrowed := true }
def MuxJoinsUptoSaid : Prop := muxJoinsUptoRow.holds Try.pinned (OpenSpec.upto muxJoinsSpec)

end Rows
end Go.Proofs.Ytagkhljcknnhmaa

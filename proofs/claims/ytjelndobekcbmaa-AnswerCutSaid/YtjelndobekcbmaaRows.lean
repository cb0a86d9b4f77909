/-
  No cell of these rows narrows 'for every input' (looked for: loops, veiled, ifaces, maps, wideKeys, modest, calm, conditions, laid).
  DERIVED. THE GIVEN ROWS OF THIS SEAT. 8 by the template 'for every input the law returns true; each argument reads behind the call as it read before'; 0 by the template 'total and deterministic' (their statements: YtjelndobekcbmaaTotals.lean).
  GIVEN WITH THE SEED: the statements are not yours to turn. If you find one false, say at which input.
  Laid BY PROGRAM, IN A SANDBOX (cutbox-rows.mjs): the forced cells as the released guide's own fill.sh prints them over the translation 0f044f663b77d294… (all of the seat's roots in one cut). By AI agents, Wed Nov 11 2026. No macro, syntax, notation, axiom, sorry.
-/
import Derived.Test.YtjelndobekcbmaaChecked
import GoSem.Claim
import GoSem.ClaimJoined
import GoSem.ClaimMapViews
import Derived.JoinedTies
import Derived.KernelRfl
namespace Go.Proofs.Ytjelndobekcbmaa
/- THE CELL 'sum', in the pinned program and in every row, IS THE sha256 OF THE DUMP (.gsa) THAT YtjelndobekcbmaaProg.lean LOADS. Nothing in Lean hashes anything: it is a label: what it is worth is what the hold of that sum in a sandbox is worth. -/
noncomputable def Try.pinned : Pinned := { name := "ytjelndobekcbmaa", sum := "0f044f663b77d294205607052f2daee99bed8da18aab7d483f7f971eeba255d5", checked := Try.checked }
namespace Rows
def none {H : Type} : Left H := { results := [], args := [] }

/-- 'wheelhouselaw20.MarkPieces': WHATEVER THE INPUT: true; the input reads as it did. -/
def markPiecesSpec : ChangeSpec := { name := "markPieces", fn := fun _ => fun
  | [d1, d2, d3] => { results := [.lit (.bool true)], args := [d1, d2, d3] }
  | _ => none }
def markPiecesRow : OpenClaim := { program := "ytjelndobekcbmaa", sum := "0f044f663b77d294205607052f2daee99bed8da18aab7d483f7f971eeba255d5", func := "wheelhouse/wheelhouselaw20.MarkPieces", spec := "markPieces", inPlace := ["internal/abi.NoEscape"], apart := false }
def MarkPiecesSaid : Prop := markPiecesRow.holds Try.pinned (OpenSpec.ofChange markPiecesSpec)

/-- ITS FALSE NEIGHBOUR: 'it returns false'. Refute it at one input. -/
def markPiecesWrong : ChangeSpec := { name := "markPieces", fn := fun _ => fun
  | [d1, d2, d3] => { results := [.lit (.bool false)], args := [d1, d2, d3] }
  | _ => none }
def MarkPiecesWrongFalsely : Prop := markPiecesRow.holds Try.pinned (OpenSpec.ofChange markPiecesWrong)

/-- 'wheelhouselaw20.MarkTells': WHATEVER THE INPUT: true; the input reads as it did. -/
def markTellsSpec : ChangeSpec := { name := "markTells", fn := fun _ => fun
  | [d] => { results := [.lit (.bool true)], args := [d] }
  | _ => none }
def markTellsRow : OpenClaim := { program := "ytjelndobekcbmaa", sum := "0f044f663b77d294205607052f2daee99bed8da18aab7d483f7f971eeba255d5", func := "wheelhouse/wheelhouselaw20.MarkTells", spec := "markTells", inPlace := ["internal/abi.NoEscape"], recurses := true, apart := false }
def MarkTellsSaid : Prop := markTellsRow.holds Try.pinned (OpenSpec.ofChange markTellsSpec)

/-- ITS FALSE NEIGHBOUR: 'it returns false'. Refute it at one input. -/
def markTellsWrong : ChangeSpec := { name := "markTells", fn := fun _ => fun
  | [d] => { results := [.lit (.bool false)], args := [d] }
  | _ => none }
def MarkTellsWrongFalsely : Prop := markTellsRow.holds Try.pinned (OpenSpec.ofChange markTellsWrong)

/-- 'wheelhouselaw20.MarkLines': WHATEVER THE INPUT: true; the input reads as it did. -/
def markLinesSpec : ChangeSpec := { name := "markLines", fn := fun _ => fun
  | [d] => { results := [.lit (.bool true)], args := [d] }
  | _ => none }
def markLinesRow : OpenClaim := { program := "ytjelndobekcbmaa", sum := "0f044f663b77d294205607052f2daee99bed8da18aab7d483f7f971eeba255d5", func := "wheelhouse/wheelhouselaw20.MarkLines", spec := "markLines", inPlace := ["internal/abi.NoEscape"], apart := false }
def MarkLinesSaid : Prop := markLinesRow.holds Try.pinned (OpenSpec.ofChange markLinesSpec)

/-- ITS FALSE NEIGHBOUR: 'it returns false'. Refute it at one input. -/
def markLinesWrong : ChangeSpec := { name := "markLines", fn := fun _ => fun
  | [d] => { results := [.lit (.bool false)], args := [d] }
  | _ => none }
def MarkLinesWrongFalsely : Prop := markLinesRow.holds Try.pinned (OpenSpec.ofChange markLinesWrong)

/-- 'wheelhouselaw27.AnswerPuts': WHATEVER THE INPUT: true; the input reads as it did. -/
def answerPutsSpec : ChangeSpec := { name := "answerPuts", fn := fun _ => fun
  | [d1, d2] => { results := [.lit (.bool true)], args := [d1, d2] }
  | _ => none }
def answerPutsRow : OpenClaim := { program := "ytjelndobekcbmaa", sum := "0f044f663b77d294205607052f2daee99bed8da18aab7d483f7f971eeba255d5", func := "wheelhouse/wheelhouselaw27.AnswerPuts", spec := "answerPuts", recurses := true, apart := false }
def AnswerPutsSaid : Prop := answerPutsRow.holds Try.pinned (OpenSpec.ofChange answerPutsSpec)

/-- ITS FALSE NEIGHBOUR: 'it returns false'. Refute it at one input. -/
def answerPutsWrong : ChangeSpec := { name := "answerPuts", fn := fun _ => fun
  | [d1, d2] => { results := [.lit (.bool false)], args := [d1, d2] }
  | _ => none }
def AnswerPutsWrongFalsely : Prop := answerPutsRow.holds Try.pinned (OpenSpec.ofChange answerPutsWrong)

/-- 'wheelhouselaw27.AnswerCut': WHATEVER THE INPUT: true; the input reads as it did. -/
def answerCutSpec : ChangeSpec := { name := "answerCut", fn := fun _ => fun
  | [d1, d2] => { results := [.lit (.bool true)], args := [d1, d2] }
  | _ => none }
def answerCutRow : OpenClaim := { program := "ytjelndobekcbmaa", sum := "0f044f663b77d294205607052f2daee99bed8da18aab7d483f7f971eeba255d5", func := "wheelhouse/wheelhouselaw27.AnswerCut", spec := "answerCut", apart := false }
def AnswerCutSaid : Prop := answerCutRow.holds Try.pinned (OpenSpec.ofChange answerCutSpec)

/-- ITS FALSE NEIGHBOUR: 'it returns false'. Refute it at one input. -/
def answerCutWrong : ChangeSpec := { name := "answerCut", fn := fun _ => fun
  | [d1, d2] => { results := [.lit (.bool false)], args := [d1, d2] }
  | _ => none }
def AnswerCutWrongFalsely : Prop := answerCutRow.holds Try.pinned (OpenSpec.ofChange answerCutWrong)

/-- 'wheelhouselaw14.BrkReads': WHATEVER THE INPUT: true; the input reads as it did. -/
def brkReadsSpec : ChangeSpec := { name := "brkReads", fn := fun _ => fun
  | [d] => { results := [.lit (.bool true)], args := [d] }
  | _ => none }
def brkReadsRow : OpenClaim := { program := "ytjelndobekcbmaa", sum := "0f044f663b77d294205607052f2daee99bed8da18aab7d483f7f971eeba255d5", func := "wheelhouse/wheelhouselaw14.BrkReads", spec := "brkReads", unfollowed := true, recurses := true, apart := false }
def BrkReadsSaid : Prop := brkReadsRow.holds Try.pinned (OpenSpec.ofChange brkReadsSpec)

/-- ITS FALSE NEIGHBOUR: 'it returns false'. Refute it at one input. -/
def brkReadsWrong : ChangeSpec := { name := "brkReads", fn := fun _ => fun
  | [d] => { results := [.lit (.bool false)], args := [d] }
  | _ => none }
def BrkReadsWrongFalsely : Prop := brkReadsRow.holds Try.pinned (OpenSpec.ofChange brkReadsWrong)

/-- 'wheelhouselaw14.BrkPuts': WHATEVER THE INPUT: true; the input reads as it did. -/
def brkPutsSpec : ChangeSpec := { name := "brkPuts", fn := fun _ => fun
  | [d] => { results := [.lit (.bool true)], args := [d] }
  | _ => none }
def brkPutsRow : OpenClaim := { program := "ytjelndobekcbmaa", sum := "0f044f663b77d294205607052f2daee99bed8da18aab7d483f7f971eeba255d5", func := "wheelhouse/wheelhouselaw14.BrkPuts", spec := "brkPuts", unfollowed := true, recurses := true, apart := false }
def BrkPutsSaid : Prop := brkPutsRow.holds Try.pinned (OpenSpec.ofChange brkPutsSpec)

/-- ITS FALSE NEIGHBOUR: 'it returns false'. Refute it at one input. -/
def brkPutsWrong : ChangeSpec := { name := "brkPuts", fn := fun _ => fun
  | [d] => { results := [.lit (.bool false)], args := [d] }
  | _ => none }
def BrkPutsWrongFalsely : Prop := brkPutsRow.holds Try.pinned (OpenSpec.ofChange brkPutsWrong)

/-- 'wheelhouselaw14.BrkShort': WHATEVER THE INPUT: true; the input reads as it did. -/
def brkShortSpec : ChangeSpec := { name := "brkShort", fn := fun _ => fun
  | [d] => { results := [.lit (.bool true)], args := [d] }
  | _ => none }
def brkShortRow : OpenClaim := { program := "ytjelndobekcbmaa", sum := "0f044f663b77d294205607052f2daee99bed8da18aab7d483f7f971eeba255d5", func := "wheelhouse/wheelhouselaw14.BrkShort", spec := "brkShort", unfollowed := true, recurses := true, apart := false }
def BrkShortSaid : Prop := brkShortRow.holds Try.pinned (OpenSpec.ofChange brkShortSpec)

/-- ITS FALSE NEIGHBOUR: 'it returns false'. Refute it at one input. -/
def brkShortWrong : ChangeSpec := { name := "brkShort", fn := fun _ => fun
  | [d] => { results := [.lit (.bool false)], args := [d] }
  | _ => none }
def BrkShortWrongFalsely : Prop := brkShortRow.holds Try.pinned (OpenSpec.ofChange brkShortWrong)

/- THE SECOND FORM. 'bulk': how many values and letters a reading holds, each counted each time it is reached (what is shared counts as often as it is met; a slice's spare places count too). A statement '..UptoSaid' is the law's where the arguments, and the package variables that the reading takes, are together of bulk at most 1048576: NARROWER than '..Said'. Prove '..Said' where nothing that the law and all that it calls make is longer than what came in: it says more and counts as full. Else prove '..UptoSaid'. A law counts once. -/
mutual
def uptoBulk {H : Type} : DataW H → Nat
  | .lit (.string bytes) => bytes.length + 1
  | .lit _ => 1
  | .nil => 1
  | .ptr d => uptoBulk d + 1
  | .slice elems spare => uptoBulkAll elems + uptoBulkAll spare + 1
  | .agg parts => uptoBulkAll parts + 1
  | .iface _ d => uptoBulk d + 1
  | .map entries => uptoBulkEntries entries + 1
  | .held _ => 1
def uptoBulkAll {H : Type} : List (DataW H) → Nat
  | [] => 0
  | d :: r => uptoBulk d + uptoBulkAll r
def uptoBulkEntries {H : Type} : List (Lit × DataW H) → Nat
  | [] => 0
  | x :: r => uptoBulkEntry x + uptoBulkEntries r
def uptoBulkEntry {H : Type} : Lit × DataW H → Nat
  | (.string bytes, d) => bytes.length + uptoBulk d + 1
  | (_, d) => uptoBulk d + 1
 end
def uptoSmall : (H : Type) → List (DataW H) → Bool := fun _ ds => decide (uptoBulkAll ds ≤ 1048576)
def OpenSpec.upto (s : _root_.Go.ChangeSpec) : _root_.Go.OpenSpec := { _root_.Go.OpenSpec.ofChange s with cond := some uptoSmall }

/-- 'wheelhouselaw20.MarkPieces', WHERE WHAT IT READS IS OF BULK AT MOST 1048576: true; the input reads as it did. -/
def markPiecesUptoRow : OpenClaim := { program := "ytjelndobekcbmaa", sum := "0f044f663b77d294205607052f2daee99bed8da18aab7d483f7f971eeba255d5", func := "wheelhouse/wheelhouselaw20.MarkPieces", spec := "markPieces", inPlace := ["internal/abi.NoEscape"], apart := false, narrowed := true }
def MarkPiecesUptoSaid : Prop := markPiecesUptoRow.holds Try.pinned (OpenSpec.upto markPiecesSpec)

/-- 'wheelhouselaw20.MarkTells', WHERE WHAT IT READS IS OF BULK AT MOST 1048576: true; the input reads as it did. -/
def markTellsUptoRow : OpenClaim := { program := "ytjelndobekcbmaa", sum := "0f044f663b77d294205607052f2daee99bed8da18aab7d483f7f971eeba255d5", func := "wheelhouse/wheelhouselaw20.MarkTells", spec := "markTells", inPlace := ["internal/abi.NoEscape"], recurses := true, apart := false, narrowed := true }
def MarkTellsUptoSaid : Prop := markTellsUptoRow.holds Try.pinned (OpenSpec.upto markTellsSpec)

/-- 'wheelhouselaw20.MarkLines', WHERE WHAT IT READS IS OF BULK AT MOST 1048576: true; the input reads as it did. -/
def markLinesUptoRow : OpenClaim := { program := "ytjelndobekcbmaa", sum := "0f044f663b77d294205607052f2daee99bed8da18aab7d483f7f971eeba255d5", func := "wheelhouse/wheelhouselaw20.MarkLines", spec := "markLines", inPlace := ["internal/abi.NoEscape"], apart := false, narrowed := true }
def MarkLinesUptoSaid : Prop := markLinesUptoRow.holds Try.pinned (OpenSpec.upto markLinesSpec)

/-- 'wheelhouselaw27.AnswerPuts', WHERE WHAT IT READS IS OF BULK AT MOST 1048576: true; the input reads as it did. -/
def answerPutsUptoRow : OpenClaim := { program := "ytjelndobekcbmaa", sum := "0f044f663b77d294205607052f2daee99bed8da18aab7d483f7f971eeba255d5", func := "wheelhouse/wheelhouselaw27.AnswerPuts", spec := "answerPuts", recurses := true, apart := false, narrowed := true }
def AnswerPutsUptoSaid : Prop := answerPutsUptoRow.holds Try.pinned (OpenSpec.upto answerPutsSpec)

/-- 'wheelhouselaw27.AnswerCut', WHERE WHAT IT READS IS OF BULK AT MOST 1048576: true; the input reads as it did. -/
def answerCutUptoRow : OpenClaim := { program := "ytjelndobekcbmaa", sum := "0f044f663b77d294205607052f2daee99bed8da18aab7d483f7f971eeba255d5", func := "wheelhouse/wheelhouselaw27.AnswerCut", spec := "answerCut", apart := false, narrowed := true }
def AnswerCutUptoSaid : Prop := answerCutUptoRow.holds Try.pinned (OpenSpec.upto answerCutSpec)

/-- 'wheelhouselaw14.BrkReads', WHERE WHAT IT READS IS OF BULK AT MOST 1048576: true; the input reads as it did. -/
def brkReadsUptoRow : OpenClaim := { program := "ytjelndobekcbmaa", sum := "0f044f663b77d294205607052f2daee99bed8da18aab7d483f7f971eeba255d5", func := "wheelhouse/wheelhouselaw14.BrkReads", spec := "brkReads", unfollowed := true, recurses := true, apart := false, narrowed := true }
def BrkReadsUptoSaid : Prop := brkReadsUptoRow.holds Try.pinned (OpenSpec.upto brkReadsSpec)

/-- 'wheelhouselaw14.BrkPuts', WHERE WHAT IT READS IS OF BULK AT MOST 1048576: true; the input reads as it did. -/
def brkPutsUptoRow : OpenClaim := { program := "ytjelndobekcbmaa", sum := "0f044f663b77d294205607052f2daee99bed8da18aab7d483f7f971eeba255d5", func := "wheelhouse/wheelhouselaw14.BrkPuts", spec := "brkPuts", unfollowed := true, recurses := true, apart := false, narrowed := true }
def BrkPutsUptoSaid : Prop := brkPutsUptoRow.holds Try.pinned (OpenSpec.upto brkPutsSpec)

/-- 'wheelhouselaw14.BrkShort', WHERE WHAT IT READS IS OF BULK AT MOST 1048576: true; the input reads as it did. -/
def brkShortUptoRow : OpenClaim := { program := "ytjelndobekcbmaa", sum := "0f044f663b77d294205607052f2daee99bed8da18aab7d483f7f971eeba255d5", func := "wheelhouse/wheelhouselaw14.BrkShort", spec := "brkShort", unfollowed := true, recurses := true, apart := false, narrowed := true }
def BrkShortUptoSaid : Prop := brkShortUptoRow.holds Try.pinned (OpenSpec.upto brkShortSpec)

end Rows
end Go.Proofs.Ytjelndobekcbmaa

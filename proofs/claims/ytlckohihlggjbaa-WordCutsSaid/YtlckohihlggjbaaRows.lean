/-
  No cell of these rows narrows 'for every input' (looked for: loops, veiled, ifaces, maps, wideKeys, modest, calm, conditions, laid).
  DERIVED. THE GIVEN ROWS OF THIS SEAT. 11 by the template 'for every input the law returns true; each argument reads behind the call as it read before'; 0 by the template 'total and deterministic' (their statements: YtlckohihlggjbaaTotals.lean).
  GIVEN WITH THE SEED: the statements are not yours to turn. If you find one false, say at which input.
  Laid BY PROGRAM, IN A SANDBOX (cutbox-rows.mjs): the forced cells as the released guide's own fill.sh prints them over the translation 0f718d65b2c92bf8… (all of the seat's roots in one cut). By AI agents, Wed Nov 11 2026. No macro, syntax, notation, axiom, sorry.
-/
import Derived.Test.YtlckohihlggjbaaChecked
import GoSem.Claim
import GoSem.ClaimJoined
import GoSem.ClaimMapViews
import Derived.JoinedTies
import Derived.KernelRfl
namespace Go.Proofs.Ytlckohihlggjbaa
/- THE CELL 'sum', in the pinned program and in every row, IS THE sha256 OF THE DUMP (.gsa) THAT YtlckohihlggjbaaProg.lean LOADS. Nothing in Lean hashes anything: it is a label: what it is worth is what the hold of that sum in a sandbox is worth. -/
noncomputable def Try.pinned : Pinned := { name := "ytlckohihlggjbaa", sum := "0f718d65b2c92bf806f29b8ad10d0cbb904aba933d52c5b338dc48816409d8ed", checked := Try.checked }
namespace Rows
def none {H : Type} : Left H := { results := [], args := [] }

/-- 'wheelhouselaw06.TimerOrder': WHATEVER THE INPUT: true; the input reads as it did. -/
def timerOrderSpec : ChangeSpec := { name := "timerOrder", fn := fun _ => fun
  | [d1, d2] => { results := [.lit (.bool true)], args := [d1, d2] }
  | _ => none }
def timerOrderRow : OpenClaim := { program := "ytlckohihlggjbaa", sum := "0f718d65b2c92bf806f29b8ad10d0cbb904aba933d52c5b338dc48816409d8ed", func := "wheelhouse/wheelhouselaw06.TimerOrder", spec := "timerOrder", unfollowed := true, recurses := true, apart := false }
def TimerOrderSaid : Prop := timerOrderRow.holds Try.pinned (OpenSpec.ofChange timerOrderSpec)

/-- ITS FALSE NEIGHBOUR: 'it returns false'. Refute it at one input. -/
def timerOrderWrong : ChangeSpec := { name := "timerOrder", fn := fun _ => fun
  | [d1, d2] => { results := [.lit (.bool false)], args := [d1, d2] }
  | _ => none }
def TimerOrderWrongFalsely : Prop := timerOrderRow.holds Try.pinned (OpenSpec.ofChange timerOrderWrong)

/-- 'wheelhouselaw06.TimerPlays': WHATEVER THE INPUT: true; the input reads as it did. -/
def timerPlaysSpec : ChangeSpec := { name := "timerPlays", fn := fun _ => fun
  | [d1, d2] => { results := [.lit (.bool true)], args := [d1, d2] }
  | _ => none }
def timerPlaysRow : OpenClaim := { program := "ytlckohihlggjbaa", sum := "0f718d65b2c92bf806f29b8ad10d0cbb904aba933d52c5b338dc48816409d8ed", func := "wheelhouse/wheelhouselaw06.TimerPlays", spec := "timerPlays", unfollowed := true, recurses := true, apart := false }
def TimerPlaysSaid : Prop := timerPlaysRow.holds Try.pinned (OpenSpec.ofChange timerPlaysSpec)

/-- ITS FALSE NEIGHBOUR: 'it returns false'. Refute it at one input. -/
def timerPlaysWrong : ChangeSpec := { name := "timerPlays", fn := fun _ => fun
  | [d1, d2] => { results := [.lit (.bool false)], args := [d1, d2] }
  | _ => none }
def TimerPlaysWrongFalsely : Prop := timerPlaysRow.holds Try.pinned (OpenSpec.ofChange timerPlaysWrong)

/-- 'wheelhouselaw06.TimerNone': WHATEVER THE INPUT: true; the input reads as it did. -/
def timerNoneSpec : ChangeSpec := { name := "timerNone", fn := fun _ => fun
  | [d1, d2] => { results := [.lit (.bool true)], args := [d1, d2] }
  | _ => none }
def timerNoneRow : OpenClaim := { program := "ytlckohihlggjbaa", sum := "0f718d65b2c92bf806f29b8ad10d0cbb904aba933d52c5b338dc48816409d8ed", func := "wheelhouse/wheelhouselaw06.TimerNone", spec := "timerNone", unfollowed := true, recurses := true, apart := false }
def TimerNoneSaid : Prop := timerNoneRow.holds Try.pinned (OpenSpec.ofChange timerNoneSpec)

/-- ITS FALSE NEIGHBOUR: 'it returns false'. Refute it at one input. -/
def timerNoneWrong : ChangeSpec := { name := "timerNone", fn := fun _ => fun
  | [d1, d2] => { results := [.lit (.bool false)], args := [d1, d2] }
  | _ => none }
def TimerNoneWrongFalsely : Prop := timerNoneRow.holds Try.pinned (OpenSpec.ofChange timerNoneWrong)

/-- 'wheelhouselaw20.MarkPieces': WHATEVER THE INPUT: true; the input reads as it did. -/
def markPiecesSpec : ChangeSpec := { name := "markPieces", fn := fun _ => fun
  | [d1, d2, d3] => { results := [.lit (.bool true)], args := [d1, d2, d3] }
  | _ => none }
def markPiecesRow : OpenClaim := { program := "ytlckohihlggjbaa", sum := "0f718d65b2c92bf806f29b8ad10d0cbb904aba933d52c5b338dc48816409d8ed", func := "wheelhouse/wheelhouselaw20.MarkPieces", spec := "markPieces", inPlace := ["internal/abi.NoEscape"], apart := false }
def MarkPiecesSaid : Prop := markPiecesRow.holds Try.pinned (OpenSpec.ofChange markPiecesSpec)

/-- ITS FALSE NEIGHBOUR: 'it returns false'. Refute it at one input. -/
def markPiecesWrong : ChangeSpec := { name := "markPieces", fn := fun _ => fun
  | [d1, d2, d3] => { results := [.lit (.bool false)], args := [d1, d2, d3] }
  | _ => none }
def MarkPiecesWrongFalsely : Prop := markPiecesRow.holds Try.pinned (OpenSpec.ofChange markPiecesWrong)

/-- 'wheelhouselaw20.MarkTells': WHATEVER THE INPUT: true; the input reads as it did. -/
def markTellsSpec : ChangeSpec := { name := "markTells", fn := fun _ => fun
  | [d] => { results := [.lit (.bool true)], args := [d] }
  | _ => none }
def markTellsRow : OpenClaim := { program := "ytlckohihlggjbaa", sum := "0f718d65b2c92bf806f29b8ad10d0cbb904aba933d52c5b338dc48816409d8ed", func := "wheelhouse/wheelhouselaw20.MarkTells", spec := "markTells", inPlace := ["internal/abi.NoEscape"], recurses := true, apart := false }
def MarkTellsSaid : Prop := markTellsRow.holds Try.pinned (OpenSpec.ofChange markTellsSpec)

/-- ITS FALSE NEIGHBOUR: 'it returns false'. Refute it at one input. -/
def markTellsWrong : ChangeSpec := { name := "markTells", fn := fun _ => fun
  | [d] => { results := [.lit (.bool false)], args := [d] }
  | _ => none }
def MarkTellsWrongFalsely : Prop := markTellsRow.holds Try.pinned (OpenSpec.ofChange markTellsWrong)

/-- 'wheelhouselaw20.MarkLines': WHATEVER THE INPUT: true; the input reads as it did. -/
def markLinesSpec : ChangeSpec := { name := "markLines", fn := fun _ => fun
  | [d] => { results := [.lit (.bool true)], args := [d] }
  | _ => none }
def markLinesRow : OpenClaim := { program := "ytlckohihlggjbaa", sum := "0f718d65b2c92bf806f29b8ad10d0cbb904aba933d52c5b338dc48816409d8ed", func := "wheelhouse/wheelhouselaw20.MarkLines", spec := "markLines", inPlace := ["internal/abi.NoEscape"], apart := false }
def MarkLinesSaid : Prop := markLinesRow.holds Try.pinned (OpenSpec.ofChange markLinesSpec)

/-- ITS FALSE NEIGHBOUR: 'it returns false'. Refute it at one input. -/
def markLinesWrong : ChangeSpec := { name := "markLines", fn := fun _ => fun
  | [d] => { results := [.lit (.bool false)], args := [d] }
  | _ => none }
def MarkLinesWrongFalsely : Prop := markLinesRow.holds Try.pinned (OpenSpec.ofChange markLinesWrong)

/-- 'wheelhouselaw27.AnswerPuts': WHATEVER THE INPUT: true; the input reads as it did. -/
def answerPutsSpec : ChangeSpec := { name := "answerPuts", fn := fun _ => fun
  | [d1, d2] => { results := [.lit (.bool true)], args := [d1, d2] }
  | _ => none }
def answerPutsRow : OpenClaim := { program := "ytlckohihlggjbaa", sum := "0f718d65b2c92bf806f29b8ad10d0cbb904aba933d52c5b338dc48816409d8ed", func := "wheelhouse/wheelhouselaw27.AnswerPuts", spec := "answerPuts", recurses := true, apart := false }
def AnswerPutsSaid : Prop := answerPutsRow.holds Try.pinned (OpenSpec.ofChange answerPutsSpec)

/-- ITS FALSE NEIGHBOUR: 'it returns false'. Refute it at one input. -/
def answerPutsWrong : ChangeSpec := { name := "answerPuts", fn := fun _ => fun
  | [d1, d2] => { results := [.lit (.bool false)], args := [d1, d2] }
  | _ => none }
def AnswerPutsWrongFalsely : Prop := answerPutsRow.holds Try.pinned (OpenSpec.ofChange answerPutsWrong)

/-- 'wheelhouselaw27.AnswerCut': WHATEVER THE INPUT: true; the input reads as it did. -/
def answerCutSpec : ChangeSpec := { name := "answerCut", fn := fun _ => fun
  | [d1, d2] => { results := [.lit (.bool true)], args := [d1, d2] }
  | _ => none }
def answerCutRow : OpenClaim := { program := "ytlckohihlggjbaa", sum := "0f718d65b2c92bf806f29b8ad10d0cbb904aba933d52c5b338dc48816409d8ed", func := "wheelhouse/wheelhouselaw27.AnswerCut", spec := "answerCut", apart := false }
def AnswerCutSaid : Prop := answerCutRow.holds Try.pinned (OpenSpec.ofChange answerCutSpec)

/-- ITS FALSE NEIGHBOUR: 'it returns false'. Refute it at one input. -/
def answerCutWrong : ChangeSpec := { name := "answerCut", fn := fun _ => fun
  | [d1, d2] => { results := [.lit (.bool false)], args := [d1, d2] }
  | _ => none }
def AnswerCutWrongFalsely : Prop := answerCutRow.holds Try.pinned (OpenSpec.ofChange answerCutWrong)

/-- 'wheelhouselaw10.WordIs': WHATEVER THE INPUT: true; the input reads as it did. -/
def wordIsSpec : ChangeSpec := { name := "wordIs", fn := fun _ => fun
  | [d1, d2] => { results := [.lit (.bool true)], args := [d1, d2] }
  | _ => none }
def wordIsRow : OpenClaim := { program := "ytlckohihlggjbaa", sum := "0f718d65b2c92bf806f29b8ad10d0cbb904aba933d52c5b338dc48816409d8ed", func := "wheelhouse/wheelhouselaw10.WordIs", spec := "wordIs", recurses := true, apart := false }
def WordIsSaid : Prop := wordIsRow.holds Try.pinned (OpenSpec.ofChange wordIsSpec)

/-- ITS FALSE NEIGHBOUR: 'it returns false'. Refute it at one input. -/
def wordIsWrong : ChangeSpec := { name := "wordIs", fn := fun _ => fun
  | [d1, d2] => { results := [.lit (.bool false)], args := [d1, d2] }
  | _ => none }
def WordIsWrongFalsely : Prop := wordIsRow.holds Try.pinned (OpenSpec.ofChange wordIsWrong)

/-- 'wheelhouselaw10.WordMatches': WHATEVER THE INPUT: true; the input reads as it did. -/
def wordMatchesSpec : ChangeSpec := { name := "wordMatches", fn := fun _ => fun
  | [d1, d2, d3] => { results := [.lit (.bool true)], args := [d1, d2, d3] }
  | _ => none }
def wordMatchesRow : OpenClaim := { program := "ytlckohihlggjbaa", sum := "0f718d65b2c92bf806f29b8ad10d0cbb904aba933d52c5b338dc48816409d8ed", func := "wheelhouse/wheelhouselaw10.WordMatches", spec := "wordMatches", recurses := true, apart := false }
def WordMatchesSaid : Prop := wordMatchesRow.holds Try.pinned (OpenSpec.ofChange wordMatchesSpec)

/-- ITS FALSE NEIGHBOUR: 'it returns false'. Refute it at one input. -/
def wordMatchesWrong : ChangeSpec := { name := "wordMatches", fn := fun _ => fun
  | [d1, d2, d3] => { results := [.lit (.bool false)], args := [d1, d2, d3] }
  | _ => none }
def WordMatchesWrongFalsely : Prop := wordMatchesRow.holds Try.pinned (OpenSpec.ofChange wordMatchesWrong)

/-- 'wheelhouselaw10.WordCuts': WHATEVER THE INPUT: true; the input reads as it did. -/
def wordCutsSpec : ChangeSpec := { name := "wordCuts", fn := fun _ => fun
  | [d1, d2] => { results := [.lit (.bool true)], args := [d1, d2] }
  | _ => none }
def wordCutsRow : OpenClaim := { program := "ytlckohihlggjbaa", sum := "0f718d65b2c92bf806f29b8ad10d0cbb904aba933d52c5b338dc48816409d8ed", func := "wheelhouse/wheelhouselaw10.WordCuts", spec := "wordCuts", recurses := true, apart := false }
def WordCutsSaid : Prop := wordCutsRow.holds Try.pinned (OpenSpec.ofChange wordCutsSpec)

/-- ITS FALSE NEIGHBOUR: 'it returns false'. Refute it at one input. -/
def wordCutsWrong : ChangeSpec := { name := "wordCuts", fn := fun _ => fun
  | [d1, d2] => { results := [.lit (.bool false)], args := [d1, d2] }
  | _ => none }
def WordCutsWrongFalsely : Prop := wordCutsRow.holds Try.pinned (OpenSpec.ofChange wordCutsWrong)

/- THE SECOND FORM. 'bulk': how many values and letters a reading holds, each counted each time it is reached (what is shared counts as often as it is met; a slice's spare places count too). A statement '..UptoSaid' is the law's where the arguments, and the package variables that the reading takes, are together of bulk at most 1048576: NARROWER than '..Said'. Prove '..Said' where nothing that the law and all that it calls make is longer than what came in: it says more and counts as full. Else prove '..UptoSaid'. A law counts once. -/
mutual
def uptoBulk {H : Type} : DataW H → Nat
  | .lit (.string bytes) => bytes.length + 1
  | .lit _ => 1
  | .nil => 1
  | .ptr d => uptoBulk d + 1
  | .slice elems spare => uptoBulkAll elems + uptoBulkAll spare + 1
  | .agg parts => uptoBulkAll parts + 1
  | .iface _ d => uptoBulk d + 1
  | .map entries => uptoBulkEntries entries + 1
  | .held _ => 1
def uptoBulkAll {H : Type} : List (DataW H) → Nat
  | [] => 0
  | d :: r => uptoBulk d + uptoBulkAll r
def uptoBulkEntries {H : Type} : List (Lit × DataW H) → Nat
  | [] => 0
  | x :: r => uptoBulkEntry x + uptoBulkEntries r
def uptoBulkEntry {H : Type} : Lit × DataW H → Nat
  | (.string bytes, d) => bytes.length + uptoBulk d + 1
  | (_, d) => uptoBulk d + 1
 end
def uptoSmall : (H : Type) → List (DataW H) → Bool := fun _ ds => decide (uptoBulkAll ds ≤ 1048576)
def OpenSpec.upto (s : _root_.Go.ChangeSpec) : _root_.Go.OpenSpec := { _root_.Go.OpenSpec.ofChange s with cond := some uptoSmall }

/-- 'wheelhouselaw06.TimerOrder', WHERE WHAT IT READS IS OF BULK AT MOST 1048576: true; the input reads as it did. -/
def timerOrderUptoRow : OpenClaim := { program := "ytlckohihlggjbaa", sum := "0f718d65b2c92bf806f29b8ad10d0cbb904aba933d52c5b338dc48816409d8ed", func := "wheelhouse/wheelhouselaw06.TimerOrder", spec := "timerOrder", unfollowed := true, recurses := true, apart := false, narrowed := true }
def TimerOrderUptoSaid : Prop := timerOrderUptoRow.holds Try.pinned (OpenSpec.upto timerOrderSpec)

/-- 'wheelhouselaw06.TimerPlays', WHERE WHAT IT READS IS OF BULK AT MOST 1048576: true; the input reads as it did. -/
def timerPlaysUptoRow : OpenClaim := { program := "ytlckohihlggjbaa", sum := "0f718d65b2c92bf806f29b8ad10d0cbb904aba933d52c5b338dc48816409d8ed", func := "wheelhouse/wheelhouselaw06.TimerPlays", spec := "timerPlays", unfollowed := true, recurses := true, apart := false, narrowed := true }
def TimerPlaysUptoSaid : Prop := timerPlaysUptoRow.holds Try.pinned (OpenSpec.upto timerPlaysSpec)

/-- 'wheelhouselaw06.TimerNone', WHERE WHAT IT READS IS OF BULK AT MOST 1048576: true; the input reads as it did. -/
def timerNoneUptoRow : OpenClaim := { program := "ytlckohihlggjbaa", sum := "0f718d65b2c92bf806f29b8ad10d0cbb904aba933d52c5b338dc48816409d8ed", func := "wheelhouse/wheelhouselaw06.TimerNone", spec := "timerNone", unfollowed := true, recurses := true, apart := false, narrowed := true }
def TimerNoneUptoSaid : Prop := timerNoneUptoRow.holds Try.pinned (OpenSpec.upto timerNoneSpec)

/-- 'wheelhouselaw20.MarkPieces', WHERE WHAT IT READS IS OF BULK AT MOST 1048576: true; the input reads as it did. -/
def markPiecesUptoRow : OpenClaim := { program := "ytlckohihlggjbaa", sum := "0f718d65b2c92bf806f29b8ad10d0cbb904aba933d52c5b338dc48816409d8ed", func := "wheelhouse/wheelhouselaw20.MarkPieces", spec := "markPieces", inPlace := ["internal/abi.NoEscape"], apart := false, narrowed := true }
def MarkPiecesUptoSaid : Prop := markPiecesUptoRow.holds Try.pinned (OpenSpec.upto markPiecesSpec)

/-- 'wheelhouselaw20.MarkTells', WHERE WHAT IT READS IS OF BULK AT MOST 1048576: true; the input reads as it did. -/
def markTellsUptoRow : OpenClaim := { program := "ytlckohihlggjbaa", sum := "0f718d65b2c92bf806f29b8ad10d0cbb904aba933d52c5b338dc48816409d8ed", func := "wheelhouse/wheelhouselaw20.MarkTells", spec := "markTells", inPlace := ["internal/abi.NoEscape"], recurses := true, apart := false, narrowed := true }
def MarkTellsUptoSaid : Prop := markTellsUptoRow.holds Try.pinned (OpenSpec.upto markTellsSpec)

/-- 'wheelhouselaw20.MarkLines', WHERE WHAT IT READS IS OF BULK AT MOST 1048576: true; the input reads as it did. -/
def markLinesUptoRow : OpenClaim := { program := "ytlckohihlggjbaa", sum := "0f718d65b2c92bf806f29b8ad10d0cbb904aba933d52c5b338dc48816409d8ed", func := "wheelhouse/wheelhouselaw20.MarkLines", spec := "markLines", inPlace := ["internal/abi.NoEscape"], apart := false, narrowed := true }
def MarkLinesUptoSaid : Prop := markLinesUptoRow.holds Try.pinned (OpenSpec.upto markLinesSpec)

/-- 'wheelhouselaw27.AnswerPuts', WHERE WHAT IT READS IS OF BULK AT MOST 1048576: true; the input reads as it did. -/
def answerPutsUptoRow : OpenClaim := { program := "ytlckohihlggjbaa", sum := "0f718d65b2c92bf806f29b8ad10d0cbb904aba933d52c5b338dc48816409d8ed", func := "wheelhouse/wheelhouselaw27.AnswerPuts", spec := "answerPuts", recurses := true, apart := false, narrowed := true }
def AnswerPutsUptoSaid : Prop := answerPutsUptoRow.holds Try.pinned (OpenSpec.upto answerPutsSpec)

/-- 'wheelhouselaw27.AnswerCut', WHERE WHAT IT READS IS OF BULK AT MOST 1048576: true; the input reads as it did. -/
def answerCutUptoRow : OpenClaim := { program := "ytlckohihlggjbaa", sum := "0f718d65b2c92bf806f29b8ad10d0cbb904aba933d52c5b338dc48816409d8ed", func := "wheelhouse/wheelhouselaw27.AnswerCut", spec := "answerCut", apart := false, narrowed := true }
def AnswerCutUptoSaid : Prop := answerCutUptoRow.holds Try.pinned (OpenSpec.upto answerCutSpec)

/-- 'wheelhouselaw10.WordIs', WHERE WHAT IT READS IS OF BULK AT MOST 1048576: true; the input reads as it did. -/
def wordIsUptoRow : OpenClaim := { program := "ytlckohihlggjbaa", sum := "0f718d65b2c92bf806f29b8ad10d0cbb904aba933d52c5b338dc48816409d8ed", func := "wheelhouse/wheelhouselaw10.WordIs", spec := "wordIs", recurses := true, apart := false, narrowed := true }
def WordIsUptoSaid : Prop := wordIsUptoRow.holds Try.pinned (OpenSpec.upto wordIsSpec)

/-- 'wheelhouselaw10.WordMatches', WHERE WHAT IT READS IS OF BULK AT MOST 1048576: true; the input reads as it did. -/
def wordMatchesUptoRow : OpenClaim := { program := "ytlckohihlggjbaa", sum := "0f718d65b2c92bf806f29b8ad10d0cbb904aba933d52c5b338dc48816409d8ed", func := "wheelhouse/wheelhouselaw10.WordMatches", spec := "wordMatches", recurses := true, apart := false, narrowed := true }
def WordMatchesUptoSaid : Prop := wordMatchesUptoRow.holds Try.pinned (OpenSpec.upto wordMatchesSpec)

/-- 'wheelhouselaw10.WordCuts', WHERE WHAT IT READS IS OF BULK AT MOST 1048576: true; the input reads as it did. -/
def wordCutsUptoRow : OpenClaim := { program := "ytlckohihlggjbaa", sum := "0f718d65b2c92bf806f29b8ad10d0cbb904aba933d52c5b338dc48816409d8ed", func := "wheelhouse/wheelhouselaw10.WordCuts", spec := "wordCuts", recurses := true, apart := false, narrowed := true }
def WordCutsUptoSaid : Prop := wordCutsUptoRow.holds Try.pinned (OpenSpec.upto wordCutsSpec)

end Rows
end Go.Proofs.Ytlckohihlggjbaa

/-
  No cell of these rows narrows 'for every input' (looked for: loops, veiled, ifaces, maps, wideKeys, modest, calm, conditions, laid).
  DERIVED. THE GIVEN ROWS OF THIS SEAT. 9 by the template 'for every input the law returns true; each argument reads behind the call as it read before'; 0 by the template 'total and deterministic' (their statements: YtckgkeicilcnmaaTotals.lean).
  GIVEN WITH THE SEED: the statements are not yours to turn. If you find one false, say at which input.
  Laid BY PROGRAM, IN A SANDBOX (cutbox-rows.mjs): the forced cells as the released guide's own fill.sh prints them over the translation 2ec1e0905c544a0b… (all of the seat's roots in one cut). By AI agents, Wed Nov 11 2026. No macro, syntax, notation, axiom, sorry.
-/
import Derived.Test.YtckgkeicilcnmaaChecked
import GoSem.Claim
import GoSem.ClaimJoined
import GoSem.ClaimMapViews
import Derived.JoinedTies
import Derived.KernelRfl
namespace Go.Proofs.Ytckgkeicilcnmaa
/- THE CELL 'sum', in the pinned program and in every row, IS THE sha256 OF THE DUMP (.gsa) THAT YtckgkeicilcnmaaProg.lean LOADS. Nothing in Lean hashes anything: it is a label: what it is worth is what the hold of that sum in a sandbox is worth. -/
noncomputable def Try.pinned : Pinned := { name := "ytckgkeicilcnmaa", sum := "2ec1e0905c544a0baf44efd0f286d637b806ae1f1915bbee5bc1c0b3ca2b412a", checked := Try.checked }
namespace Rows
def none {H : Type} : Left H := { results := [], args := [] }

/-- 'wheelhouselaw01.CalcProducts': WHATEVER THE INPUT: true; the input reads as it did. -/
def calcProductsSpec : ChangeSpec := { name := "calcProducts", fn := fun _ => fun
  | [d1, d2] => { results := [.lit (.bool true)], args := [d1, d2] }
  | _ => none }
def calcProductsRow : OpenClaim := { program := "ytckgkeicilcnmaa", sum := "2ec1e0905c544a0baf44efd0f286d637b806ae1f1915bbee5bc1c0b3ca2b412a", func := "wheelhouse/wheelhouselaw01.CalcProducts", spec := "calcProducts", apart := false }
def CalcProductsSaid : Prop := calcProductsRow.holds Try.pinned (OpenSpec.ofChange calcProductsSpec)

/-- ITS FALSE NEIGHBOUR: 'it returns false'. Refute it at one input. -/
def calcProductsWrong : ChangeSpec := { name := "calcProducts", fn := fun _ => fun
  | [d1, d2] => { results := [.lit (.bool false)], args := [d1, d2] }
  | _ => none }
def CalcProductsWrongFalsely : Prop := calcProductsRow.holds Try.pinned (OpenSpec.ofChange calcProductsWrong)

/-- 'wheelhouselaw01.CalcDoubles': WHATEVER THE INPUT: true; the input reads as it did. -/
def calcDoublesSpec : ChangeSpec := { name := "calcDoubles", fn := fun _ => fun
  | [d1, d2, d3] => { results := [.lit (.bool true)], args := [d1, d2, d3] }
  | _ => none }
def calcDoublesRow : OpenClaim := { program := "ytckgkeicilcnmaa", sum := "2ec1e0905c544a0baf44efd0f286d637b806ae1f1915bbee5bc1c0b3ca2b412a", func := "wheelhouse/wheelhouselaw01.CalcDoubles", spec := "calcDoubles", apart := false }
def CalcDoublesSaid : Prop := calcDoublesRow.holds Try.pinned (OpenSpec.ofChange calcDoublesSpec)

/-- ITS FALSE NEIGHBOUR: 'it returns false'. Refute it at one input. -/
def calcDoublesWrong : ChangeSpec := { name := "calcDoubles", fn := fun _ => fun
  | [d1, d2, d3] => { results := [.lit (.bool false)], args := [d1, d2, d3] }
  | _ => none }
def CalcDoublesWrongFalsely : Prop := calcDoublesRow.holds Try.pinned (OpenSpec.ofChange calcDoublesWrong)

/-- 'wheelhouselaw01.CalcSums': WHATEVER THE INPUT: true; the input reads as it did. -/
def calcSumsSpec : ChangeSpec := { name := "calcSums", fn := fun _ => fun
  | [d1, d2] => { results := [.lit (.bool true)], args := [d1, d2] }
  | _ => none }
def calcSumsRow : OpenClaim := { program := "ytckgkeicilcnmaa", sum := "2ec1e0905c544a0baf44efd0f286d637b806ae1f1915bbee5bc1c0b3ca2b412a", func := "wheelhouse/wheelhouselaw01.CalcSums", spec := "calcSums", apart := false }
def CalcSumsSaid : Prop := calcSumsRow.holds Try.pinned (OpenSpec.ofChange calcSumsSpec)

/-- ITS FALSE NEIGHBOUR: 'it returns false'. Refute it at one input. -/
def calcSumsWrong : ChangeSpec := { name := "calcSums", fn := fun _ => fun
  | [d1, d2] => { results := [.lit (.bool false)], args := [d1, d2] }
  | _ => none }
def CalcSumsWrongFalsely : Prop := calcSumsRow.holds Try.pinned (OpenSpec.ofChange calcSumsWrong)

/-- 'wheelhouselaw01.CalcTotals': WHATEVER THE INPUT: true; the input reads as it did. -/
def calcTotalsSpec : ChangeSpec := { name := "calcTotals", fn := fun _ => fun
  | [d1, d2, d3] => { results := [.lit (.bool true)], args := [d1, d2, d3] }
  | _ => none }
def calcTotalsRow : OpenClaim := { program := "ytckgkeicilcnmaa", sum := "2ec1e0905c544a0baf44efd0f286d637b806ae1f1915bbee5bc1c0b3ca2b412a", func := "wheelhouse/wheelhouselaw01.CalcTotals", spec := "calcTotals", apart := false }
def CalcTotalsSaid : Prop := calcTotalsRow.holds Try.pinned (OpenSpec.ofChange calcTotalsSpec)

/-- ITS FALSE NEIGHBOUR: 'it returns false'. Refute it at one input. -/
def calcTotalsWrong : ChangeSpec := { name := "calcTotals", fn := fun _ => fun
  | [d1, d2, d3] => { results := [.lit (.bool false)], args := [d1, d2, d3] }
  | _ => none }
def CalcTotalsWrongFalsely : Prop := calcTotalsRow.holds Try.pinned (OpenSpec.ofChange calcTotalsWrong)

/-- 'wheelhouselaw29.QueueOrder': WHATEVER THE INPUT: true; the input reads as it did. -/
def queueOrderSpec : ChangeSpec := { name := "queueOrder", fn := fun _ => fun
  | [d] => { results := [.lit (.bool true)], args := [d] }
  | _ => none }
def queueOrderRow : OpenClaim := { program := "ytckgkeicilcnmaa", sum := "2ec1e0905c544a0baf44efd0f286d637b806ae1f1915bbee5bc1c0b3ca2b412a", func := "wheelhouse/wheelhouselaw29.QueueOrder", spec := "queueOrder", apart := false }
def QueueOrderSaid : Prop := queueOrderRow.holds Try.pinned (OpenSpec.ofChange queueOrderSpec)

/-- ITS FALSE NEIGHBOUR: 'it returns false'. Refute it at one input. -/
def queueOrderWrong : ChangeSpec := { name := "queueOrder", fn := fun _ => fun
  | [d] => { results := [.lit (.bool false)], args := [d] }
  | _ => none }
def QueueOrderWrongFalsely : Prop := queueOrderRow.holds Try.pinned (OpenSpec.ofChange queueOrderWrong)

/-- 'wheelhouselaw18.BackoffWaits': WHATEVER THE INPUT: true; the input reads as it did. -/
def backoffWaitsSpec : ChangeSpec := { name := "backoffWaits", fn := fun _ => fun
  | [d1, d2, d3, d4] => { results := [.lit (.bool true)], args := [d1, d2, d3, d4] }
  | _ => none }
def backoffWaitsRow : OpenClaim := { program := "ytckgkeicilcnmaa", sum := "2ec1e0905c544a0baf44efd0f286d637b806ae1f1915bbee5bc1c0b3ca2b412a", func := "wheelhouse/wheelhouselaw18.BackoffWaits", spec := "backoffWaits", apart := false }
def BackoffWaitsSaid : Prop := backoffWaitsRow.holds Try.pinned (OpenSpec.ofChange backoffWaitsSpec)

/-- ITS FALSE NEIGHBOUR: 'it returns false'. Refute it at one input. -/
def backoffWaitsWrong : ChangeSpec := { name := "backoffWaits", fn := fun _ => fun
  | [d1, d2, d3, d4] => { results := [.lit (.bool false)], args := [d1, d2, d3, d4] }
  | _ => none }
def BackoffWaitsWrongFalsely : Prop := backoffWaitsRow.holds Try.pinned (OpenSpec.ofChange backoffWaitsWrong)

/-- 'wheelhouselaw18.BackoffBounds': WHATEVER THE INPUT: true; the input reads as it did. -/
def backoffBoundsSpec : ChangeSpec := { name := "backoffBounds", fn := fun _ => fun
  | [d1, d2, d3, d4] => { results := [.lit (.bool true)], args := [d1, d2, d3, d4] }
  | _ => none }
def backoffBoundsRow : OpenClaim := { program := "ytckgkeicilcnmaa", sum := "2ec1e0905c544a0baf44efd0f286d637b806ae1f1915bbee5bc1c0b3ca2b412a", func := "wheelhouse/wheelhouselaw18.BackoffBounds", spec := "backoffBounds", apart := false }
def BackoffBoundsSaid : Prop := backoffBoundsRow.holds Try.pinned (OpenSpec.ofChange backoffBoundsSpec)

/-- ITS FALSE NEIGHBOUR: 'it returns false'. Refute it at one input. -/
def backoffBoundsWrong : ChangeSpec := { name := "backoffBounds", fn := fun _ => fun
  | [d1, d2, d3, d4] => { results := [.lit (.bool false)], args := [d1, d2, d3, d4] }
  | _ => none }
def BackoffBoundsWrongFalsely : Prop := backoffBoundsRow.holds Try.pinned (OpenSpec.ofChange backoffBoundsWrong)

/-- 'wheelhouselaw29.QueuePlays': WHATEVER THE INPUT: true; the input reads as it did. -/
def queuePlaysSpec : ChangeSpec := { name := "queuePlays", fn := fun _ => fun
  | [d1, d2] => { results := [.lit (.bool true)], args := [d1, d2] }
  | _ => none }
def queuePlaysRow : OpenClaim := { program := "ytckgkeicilcnmaa", sum := "2ec1e0905c544a0baf44efd0f286d637b806ae1f1915bbee5bc1c0b3ca2b412a", func := "wheelhouse/wheelhouselaw29.QueuePlays", spec := "queuePlays", apart := false }
def QueuePlaysSaid : Prop := queuePlaysRow.holds Try.pinned (OpenSpec.ofChange queuePlaysSpec)

/-- ITS FALSE NEIGHBOUR: 'it returns false'. Refute it at one input. -/
def queuePlaysWrong : ChangeSpec := { name := "queuePlays", fn := fun _ => fun
  | [d1, d2] => { results := [.lit (.bool false)], args := [d1, d2] }
  | _ => none }
def QueuePlaysWrongFalsely : Prop := queuePlaysRow.holds Try.pinned (OpenSpec.ofChange queuePlaysWrong)

/-- 'wheelhouselaw29.QueueNone': WHATEVER THE INPUT: true; the input reads as it did. -/
def queueNoneSpec : ChangeSpec := { name := "queueNone", fn := fun _ => fun
  | [d] => { results := [.lit (.bool true)], args := [d] }
  | _ => none }
def queueNoneRow : OpenClaim := { program := "ytckgkeicilcnmaa", sum := "2ec1e0905c544a0baf44efd0f286d637b806ae1f1915bbee5bc1c0b3ca2b412a", func := "wheelhouse/wheelhouselaw29.QueueNone", spec := "queueNone", apart := false }
def QueueNoneSaid : Prop := queueNoneRow.holds Try.pinned (OpenSpec.ofChange queueNoneSpec)

/-- ITS FALSE NEIGHBOUR: 'it returns false'. Refute it at one input. -/
def queueNoneWrong : ChangeSpec := { name := "queueNone", fn := fun _ => fun
  | [d] => { results := [.lit (.bool false)], args := [d] }
  | _ => none }
def QueueNoneWrongFalsely : Prop := queueNoneRow.holds Try.pinned (OpenSpec.ofChange queueNoneWrong)

/- THE SECOND FORM. 'bulk': how many values and letters a reading holds, each counted each time it is reached (what is shared counts as often as it is met; a slice's spare places count too). A statement '..UptoSaid' is the law's where the arguments, and the package variables that the reading takes, are together of bulk at most 1048576: NARROWER than '..Said'. Prove '..Said' where nothing that the law and all that it calls make is longer than what came in: it says more and counts as full. Else prove '..UptoSaid'. A law counts once. -/
mutual
def uptoBulk {H : Type} : DataW H → Nat
  | .lit (.string bytes) => bytes.length + 1
  | .lit _ => 1
  | .nil => 1
  | .ptr d => uptoBulk d + 1
  | .slice elems spare => uptoBulkAll elems + uptoBulkAll spare + 1
  | .agg parts => uptoBulkAll parts + 1
  | .iface _ d => uptoBulk d + 1
  | .map entries => uptoBulkEntries entries + 1
  | .held _ => 1
def uptoBulkAll {H : Type} : List (DataW H) → Nat
  | [] => 0
  | d :: r => uptoBulk d + uptoBulkAll r
def uptoBulkEntries {H : Type} : List (Lit × DataW H) → Nat
  | [] => 0
  | x :: r => uptoBulkEntry x + uptoBulkEntries r
def uptoBulkEntry {H : Type} : Lit × DataW H → Nat
  | (.string bytes, d) => bytes.length + uptoBulk d + 1
  | (_, d) => uptoBulk d + 1
 end
def uptoSmall : (H : Type) → List (DataW H) → Bool := fun _ ds => decide (uptoBulkAll ds ≤ 1048576)
def OpenSpec.upto (s : _root_.Go.ChangeSpec) : _root_.Go.OpenSpec := { _root_.Go.OpenSpec.ofChange s with cond := some uptoSmall }

/-- 'wheelhouselaw01.CalcProducts', WHERE WHAT IT READS IS OF BULK AT MOST 1048576: true; the input reads as it did. -/
def calcProductsUptoRow : OpenClaim := { program := "ytckgkeicilcnmaa", sum := "2ec1e0905c544a0baf44efd0f286d637b806ae1f1915bbee5bc1c0b3ca2b412a", func := "wheelhouse/wheelhouselaw01.CalcProducts", spec := "calcProducts", apart := false, narrowed := true }
def CalcProductsUptoSaid : Prop := calcProductsUptoRow.holds Try.pinned (OpenSpec.upto calcProductsSpec)

/-- 'wheelhouselaw01.CalcDoubles', WHERE WHAT IT READS IS OF BULK AT MOST 1048576: true; the input reads as it did. -/
def calcDoublesUptoRow : OpenClaim := { program := "ytckgkeicilcnmaa", sum := "2ec1e0905c544a0baf44efd0f286d637b806ae1f1915bbee5bc1c0b3ca2b412a", func := "wheelhouse/wheelhouselaw01.CalcDoubles", spec := "calcDoubles", apart := false, narrowed := true }
def CalcDoublesUptoSaid : Prop := calcDoublesUptoRow.holds Try.pinned (OpenSpec.upto calcDoublesSpec)

/-- 'wheelhouselaw01.CalcSums', WHERE WHAT IT READS IS OF BULK AT MOST 1048576: true; the input reads as it did. -/
def calcSumsUptoRow : OpenClaim := { program := "ytckgkeicilcnmaa", sum := "2ec1e0905c544a0baf44efd0f286d637b806ae1f1915bbee5bc1c0b3ca2b412a", func := "wheelhouse/wheelhouselaw01.CalcSums", spec := "calcSums", apart := false, narrowed := true }
def CalcSumsUptoSaid : Prop := calcSumsUptoRow.holds Try.pinned (OpenSpec.upto calcSumsSpec)

/-- 'wheelhouselaw01.CalcTotals', WHERE WHAT IT READS IS OF BULK AT MOST 1048576: true; the input reads as it did. -/
def calcTotalsUptoRow : OpenClaim := { program := "ytckgkeicilcnmaa", sum := "2ec1e0905c544a0baf44efd0f286d637b806ae1f1915bbee5bc1c0b3ca2b412a", func := "wheelhouse/wheelhouselaw01.CalcTotals", spec := "calcTotals", apart := false, narrowed := true }
def CalcTotalsUptoSaid : Prop := calcTotalsUptoRow.holds Try.pinned (OpenSpec.upto calcTotalsSpec)

/-- 'wheelhouselaw29.QueueOrder', WHERE WHAT IT READS IS OF BULK AT MOST 1048576: true; the input reads as it did. -/
def queueOrderUptoRow : OpenClaim := { program := "ytckgkeicilcnmaa", sum := "2ec1e0905c544a0baf44efd0f286d637b806ae1f1915bbee5bc1c0b3ca2b412a", func := "wheelhouse/wheelhouselaw29.QueueOrder", spec := "queueOrder", apart := false, narrowed := true }
def QueueOrderUptoSaid : Prop := queueOrderUptoRow.holds Try.pinned (OpenSpec.upto queueOrderSpec)

/-- 'wheelhouselaw18.BackoffWaits', WHERE WHAT IT READS IS OF BULK AT MOST 1048576: true; the input reads as it did. -/
def backoffWaitsUptoRow : OpenClaim := { program := "ytckgkeicilcnmaa", sum := "2ec1e0905c544a0baf44efd0f286d637b806ae1f1915bbee5bc1c0b3ca2b412a", func := "wheelhouse/wheelhouselaw18.BackoffWaits", spec := "backoffWaits", apart := false, narrowed := true }
def BackoffWaitsUptoSaid : Prop := backoffWaitsUptoRow.holds Try.pinned (OpenSpec.upto backoffWaitsSpec)

/-- 'wheelhouselaw18.BackoffBounds', WHERE WHAT IT READS IS OF BULK AT MOST 1048576: true; the input reads as it did. -/
def backoffBoundsUptoRow : OpenClaim := { program := "ytckgkeicilcnmaa", sum := "2ec1e0905c544a0baf44efd0f286d637b806ae1f1915bbee5bc1c0b3ca2b412a", func := "wheelhouse/wheelhouselaw18.BackoffBounds", spec := "backoffBounds", apart := false, narrowed := true }
def BackoffBoundsUptoSaid : Prop := backoffBoundsUptoRow.holds Try.pinned (OpenSpec.upto backoffBoundsSpec)

/-- 'wheelhouselaw29.QueuePlays', WHERE WHAT IT READS IS OF BULK AT MOST 1048576: true; the input reads as it did. -/
def queuePlaysUptoRow : OpenClaim := { program := "ytckgkeicilcnmaa", sum := "2ec1e0905c544a0baf44efd0f286d637b806ae1f1915bbee5bc1c0b3ca2b412a", func := "wheelhouse/wheelhouselaw29.QueuePlays", spec := "queuePlays", apart := false, narrowed := true }
def QueuePlaysUptoSaid : Prop := queuePlaysUptoRow.holds Try.pinned (OpenSpec.upto queuePlaysSpec)

/-- 'wheelhouselaw29.QueueNone', WHERE WHAT IT READS IS OF BULK AT MOST 1048576: true; the input reads as it did. -/
def queueNoneUptoRow : OpenClaim := { program := "ytckgkeicilcnmaa", sum := "2ec1e0905c544a0baf44efd0f286d637b806ae1f1915bbee5bc1c0b3ca2b412a", func := "wheelhouse/wheelhouselaw29.QueueNone", spec := "queueNone", apart := false, narrowed := true }
def QueueNoneUptoSaid : Prop := queueNoneUptoRow.holds Try.pinned (OpenSpec.upto queueNoneSpec)

end Rows
end Go.Proofs.Ytckgkeicilcnmaa

/-
  No cell of these rows narrows 'for every input' (looked for: loops, veiled, ifaces, maps, wideKeys, modest, calm, conditions, laid).
  DERIVED. THE GIVEN ROWS OF THIS SEAT. 10 by the template 'for every input the law returns true; each argument reads behind the call as it read before'; 0 by the template 'total and deterministic' (their statements: YtiheeopbifkalaaTotals.lean).
  GIVEN WITH THE SEED: the statements are not yours to turn. If you find one false, say at which input.
  Laid BY PROGRAM, IN A SANDBOX (cutbox-rows.mjs): the forced cells as the released guide's own fill.sh prints them over the translation 6d7c9f7980cbbd5c… (all of the seat's roots in one cut). By AI agents, Wed Nov 11 2026. No macro, syntax, notation, axiom, sorry.
-/
import Derived.Test.YtiheeopbifkalaaChecked
import GoSem.Claim
import GoSem.ClaimJoined
import GoSem.ClaimMapViews
import Derived.JoinedTies
import Derived.KernelRfl
namespace Go.Proofs.Ytiheeopbifkalaa
/- THE CELL 'sum', in the pinned program and in every row, IS THE sha256 OF THE DUMP (.gsa) THAT YtiheeopbifkalaaProg.lean LOADS. Nothing in Lean hashes anything: it is a label: what it is worth is what the hold of that sum in a sandbox is worth. -/
noncomputable def Try.pinned : Pinned := { name := "ytiheeopbifkalaa", sum := "6d7c9f7980cbbd5c3ce135e03dfa3d64686779de099360463722ae58e50c5be2", checked := Try.checked }
namespace Rows
def none {H : Type} : Left H := { results := [], args := [] }

/-- 'wheelhouselaw36.GateDoes': WHATEVER THE INPUT: true; the input reads as it did. -/
def gateDoesSpec : ChangeSpec := { name := "gateDoes", fn := fun _ => fun
  | [d1, d2, d3, d4, d5] => { results := [.lit (.bool true)], args := [d1, d2, d3, d4, d5] }
  | _ => none }
def gateDoesRow : OpenClaim := { program := "ytiheeopbifkalaa", sum := "6d7c9f7980cbbd5c3ce135e03dfa3d64686779de099360463722ae58e50c5be2", func := "wheelhouse/wheelhouselaw36.GateDoes", spec := "gateDoes", unfollowed := true, recurses := true, apart := false }
def GateDoesSaid : Prop := gateDoesRow.holds Try.pinned (OpenSpec.ofChange gateDoesSpec)

/-- ITS FALSE NEIGHBOUR: 'it returns false'. Refute it at one input. -/
def gateDoesWrong : ChangeSpec := { name := "gateDoes", fn := fun _ => fun
  | [d1, d2, d3, d4, d5] => { results := [.lit (.bool false)], args := [d1, d2, d3, d4, d5] }
  | _ => none }
def GateDoesWrongFalsely : Prop := gateDoesRow.holds Try.pinned (OpenSpec.ofChange gateDoesWrong)

/-- 'wheelhouselaw36.GateKeeps': WHATEVER THE INPUT: true; the input reads as it did. -/
def gateKeepsSpec : ChangeSpec := { name := "gateKeeps", fn := fun _ => fun
  | [d1, d2, d3] => { results := [.lit (.bool true)], args := [d1, d2, d3] }
  | _ => none }
def gateKeepsRow : OpenClaim := { program := "ytiheeopbifkalaa", sum := "6d7c9f7980cbbd5c3ce135e03dfa3d64686779de099360463722ae58e50c5be2", func := "wheelhouse/wheelhouselaw36.GateKeeps", spec := "gateKeeps", unfollowed := true, recurses := true, apart := false }
def GateKeepsSaid : Prop := gateKeepsRow.holds Try.pinned (OpenSpec.ofChange gateKeepsSpec)

/-- ITS FALSE NEIGHBOUR: 'it returns false'. Refute it at one input. -/
def gateKeepsWrong : ChangeSpec := { name := "gateKeeps", fn := fun _ => fun
  | [d1, d2, d3] => { results := [.lit (.bool false)], args := [d1, d2, d3] }
  | _ => none }
def GateKeepsWrongFalsely : Prop := gateKeepsRow.holds Try.pinned (OpenSpec.ofChange gateKeepsWrong)

/-- 'wheelhouselaw36.GateShut': WHATEVER THE INPUT: true; the input reads as it did. -/
def gateShutSpec : ChangeSpec := { name := "gateShut", fn := fun _ => fun
  | [d1, d2] => { results := [.lit (.bool true)], args := [d1, d2] }
  | _ => none }
def gateShutRow : OpenClaim := { program := "ytiheeopbifkalaa", sum := "6d7c9f7980cbbd5c3ce135e03dfa3d64686779de099360463722ae58e50c5be2", func := "wheelhouse/wheelhouselaw36.GateShut", spec := "gateShut", unfollowed := true, recurses := true, apart := false }
def GateShutSaid : Prop := gateShutRow.holds Try.pinned (OpenSpec.ofChange gateShutSpec)

/-- ITS FALSE NEIGHBOUR: 'it returns false'. Refute it at one input. -/
def gateShutWrong : ChangeSpec := { name := "gateShut", fn := fun _ => fun
  | [d1, d2] => { results := [.lit (.bool false)], args := [d1, d2] }
  | _ => none }
def GateShutWrongFalsely : Prop := gateShutRow.holds Try.pinned (OpenSpec.ofChange gateShutWrong)

/-- 'wheelhouselaw25.VerbParses': WHATEVER THE INPUT: true; the input reads as it did. -/
def verbParsesSpec : ChangeSpec := { name := "verbParses", fn := fun _ => fun
  | [d1, d2] => { results := [.lit (.bool true)], args := [d1, d2] }
  | _ => none }
def verbParsesRow : OpenClaim := { program := "ytiheeopbifkalaa", sum := "6d7c9f7980cbbd5c3ce135e03dfa3d64686779de099360463722ae58e50c5be2", func := "wheelhouse/wheelhouselaw25.VerbParses", spec := "verbParses", unfollowed := true, recurses := true, apart := false }
def VerbParsesSaid : Prop := verbParsesRow.holds Try.pinned (OpenSpec.ofChange verbParsesSpec)

/-- ITS FALSE NEIGHBOUR: 'it returns false'. Refute it at one input. -/
def verbParsesWrong : ChangeSpec := { name := "verbParses", fn := fun _ => fun
  | [d1, d2] => { results := [.lit (.bool false)], args := [d1, d2] }
  | _ => none }
def VerbParsesWrongFalsely : Prop := verbParsesRow.holds Try.pinned (OpenSpec.ofChange verbParsesWrong)

/-- 'wheelhouselaw25.VerbBack': WHATEVER THE INPUT: true; the input reads as it did. -/
def verbBackSpec : ChangeSpec := { name := "verbBack", fn := fun _ => fun
  | [d1, d2] => { results := [.lit (.bool true)], args := [d1, d2] }
  | _ => none }
def verbBackRow : OpenClaim := { program := "ytiheeopbifkalaa", sum := "6d7c9f7980cbbd5c3ce135e03dfa3d64686779de099360463722ae58e50c5be2", func := "wheelhouse/wheelhouselaw25.VerbBack", spec := "verbBack", unfollowed := true, recurses := true, apart := false }
def VerbBackSaid : Prop := verbBackRow.holds Try.pinned (OpenSpec.ofChange verbBackSpec)

/-- ITS FALSE NEIGHBOUR: 'it returns false'. Refute it at one input. -/
def verbBackWrong : ChangeSpec := { name := "verbBack", fn := fun _ => fun
  | [d1, d2] => { results := [.lit (.bool false)], args := [d1, d2] }
  | _ => none }
def VerbBackWrongFalsely : Prop := verbBackRow.holds Try.pinned (OpenSpec.ofChange verbBackWrong)

/-- 'wheelhouselaw25.VerbBlanks': WHATEVER THE INPUT: true; the input reads as it did. -/
def verbBlanksSpec : ChangeSpec := { name := "verbBlanks", fn := fun _ => fun
  | [d] => { results := [.lit (.bool true)], args := [d] }
  | _ => none }
def verbBlanksRow : OpenClaim := { program := "ytiheeopbifkalaa", sum := "6d7c9f7980cbbd5c3ce135e03dfa3d64686779de099360463722ae58e50c5be2", func := "wheelhouse/wheelhouselaw25.VerbBlanks", spec := "verbBlanks", unfollowed := true, recurses := true, apart := false }
def VerbBlanksSaid : Prop := verbBlanksRow.holds Try.pinned (OpenSpec.ofChange verbBlanksSpec)

/-- ITS FALSE NEIGHBOUR: 'it returns false'. Refute it at one input. -/
def verbBlanksWrong : ChangeSpec := { name := "verbBlanks", fn := fun _ => fun
  | [d] => { results := [.lit (.bool false)], args := [d] }
  | _ => none }
def VerbBlanksWrongFalsely : Prop := verbBlanksRow.holds Try.pinned (OpenSpec.ofChange verbBlanksWrong)

/-- 'wheelhouselaw02.DigitPuts': WHATEVER THE INPUT: true; the input reads as it did. -/
def digitPutsSpec : ChangeSpec := { name := "digitPuts", fn := fun _ => fun
  | [d1, d2] => { results := [.lit (.bool true)], args := [d1, d2] }
  | _ => none }
def digitPutsRow : OpenClaim := { program := "ytiheeopbifkalaa", sum := "6d7c9f7980cbbd5c3ce135e03dfa3d64686779de099360463722ae58e50c5be2", func := "wheelhouse/wheelhouselaw02.DigitPuts", spec := "digitPuts", recurses := true, apart := false }
def DigitPutsSaid : Prop := digitPutsRow.holds Try.pinned (OpenSpec.ofChange digitPutsSpec)

/-- ITS FALSE NEIGHBOUR: 'it returns false'. Refute it at one input. -/
def digitPutsWrong : ChangeSpec := { name := "digitPuts", fn := fun _ => fun
  | [d1, d2] => { results := [.lit (.bool false)], args := [d1, d2] }
  | _ => none }
def DigitPutsWrongFalsely : Prop := digitPutsRow.holds Try.pinned (OpenSpec.ofChange digitPutsWrong)

/-- 'wheelhouselaw02.DigitReads': WHATEVER THE INPUT: true; the input reads as it did. -/
def digitReadsSpec : ChangeSpec := { name := "digitReads", fn := fun _ => fun
  | [d1, d2] => { results := [.lit (.bool true)], args := [d1, d2] }
  | _ => none }
def digitReadsRow : OpenClaim := { program := "ytiheeopbifkalaa", sum := "6d7c9f7980cbbd5c3ce135e03dfa3d64686779de099360463722ae58e50c5be2", func := "wheelhouse/wheelhouselaw02.DigitReads", spec := "digitReads", recurses := true, apart := false }
def DigitReadsSaid : Prop := digitReadsRow.holds Try.pinned (OpenSpec.ofChange digitReadsSpec)

/-- ITS FALSE NEIGHBOUR: 'it returns false'. Refute it at one input. -/
def digitReadsWrong : ChangeSpec := { name := "digitReads", fn := fun _ => fun
  | [d1, d2] => { results := [.lit (.bool false)], args := [d1, d2] }
  | _ => none }
def DigitReadsWrongFalsely : Prop := digitReadsRow.holds Try.pinned (OpenSpec.ofChange digitReadsWrong)

/-- 'wheelhouselaw02.DigitHex': WHATEVER THE INPUT: true; the input reads as it did. -/
def digitHexSpec : ChangeSpec := { name := "digitHex", fn := fun _ => fun
  | [d1, d2] => { results := [.lit (.bool true)], args := [d1, d2] }
  | _ => none }
def digitHexRow : OpenClaim := { program := "ytiheeopbifkalaa", sum := "6d7c9f7980cbbd5c3ce135e03dfa3d64686779de099360463722ae58e50c5be2", func := "wheelhouse/wheelhouselaw02.DigitHex", spec := "digitHex", apart := false }
def DigitHexSaid : Prop := digitHexRow.holds Try.pinned (OpenSpec.ofChange digitHexSpec)

/-- ITS FALSE NEIGHBOUR: 'it returns false'. Refute it at one input. -/
def digitHexWrong : ChangeSpec := { name := "digitHex", fn := fun _ => fun
  | [d1, d2] => { results := [.lit (.bool false)], args := [d1, d2] }
  | _ => none }
def DigitHexWrongFalsely : Prop := digitHexRow.holds Try.pinned (OpenSpec.ofChange digitHexWrong)

/-- 'wheelhouselaw02.DigitShows': WHATEVER THE INPUT: true; the input reads as it did. -/
def digitShowsSpec : ChangeSpec := { name := "digitShows", fn := fun _ => fun
  | [d1, d2] => { results := [.lit (.bool true)], args := [d1, d2] }
  | _ => none }
def digitShowsRow : OpenClaim := { program := "ytiheeopbifkalaa", sum := "6d7c9f7980cbbd5c3ce135e03dfa3d64686779de099360463722ae58e50c5be2", func := "wheelhouse/wheelhouselaw02.DigitShows", spec := "digitShows", apart := false }
def DigitShowsSaid : Prop := digitShowsRow.holds Try.pinned (OpenSpec.ofChange digitShowsSpec)

/-- ITS FALSE NEIGHBOUR: 'it returns false'. Refute it at one input. -/
def digitShowsWrong : ChangeSpec := { name := "digitShows", fn := fun _ => fun
  | [d1, d2] => { results := [.lit (.bool false)], args := [d1, d2] }
  | _ => none }
def DigitShowsWrongFalsely : Prop := digitShowsRow.holds Try.pinned (OpenSpec.ofChange digitShowsWrong)

/- THE SECOND FORM. 'bulk': how many values and letters a reading holds, each counted each time it is reached (what is shared counts as often as it is met; a slice's spare places count too). A statement '..UptoSaid' is the law's where the arguments, and the package variables that the reading takes, are together of bulk at most 1048576: NARROWER than '..Said'. Prove '..Said' where nothing that the law and all that it calls make is longer than what came in: it says more and counts as full. Else prove '..UptoSaid'. A law counts once. -/
mutual
def uptoBulk {H : Type} : DataW H → Nat
  | .lit (.string bytes) => bytes.length + 1
  | .lit _ => 1
  | .nil => 1
  | .ptr d => uptoBulk d + 1
  | .slice elems spare => uptoBulkAll elems + uptoBulkAll spare + 1
  | .agg parts => uptoBulkAll parts + 1
  | .iface _ d => uptoBulk d + 1
  | .map entries => uptoBulkEntries entries + 1
  | .held _ => 1
def uptoBulkAll {H : Type} : List (DataW H) → Nat
  | [] => 0
  | d :: r => uptoBulk d + uptoBulkAll r
def uptoBulkEntries {H : Type} : List (Lit × DataW H) → Nat
  | [] => 0
  | x :: r => uptoBulkEntry x + uptoBulkEntries r
def uptoBulkEntry {H : Type} : Lit × DataW H → Nat
  | (.string bytes, d) => bytes.length + uptoBulk d + 1
  | (_, d) => uptoBulk d + 1
 end
def uptoSmall : (H : Type) → List (DataW H) → Bool := fun _ ds => decide (uptoBulkAll ds ≤ 1048576)
def OpenSpec.upto (s : _root_.Go.ChangeSpec) : _root_.Go.OpenSpec := { _root_.Go.OpenSpec.ofChange s with cond := some uptoSmall }

/-- 'wheelhouselaw36.GateDoes', WHERE WHAT IT READS IS OF BULK AT MOST 1048576: true; the input reads as it did. -/
def gateDoesUptoRow : OpenClaim := { program := "ytiheeopbifkalaa", sum := "6d7c9f7980cbbd5c3ce135e03dfa3d64686779de099360463722ae58e50c5be2", func := "wheelhouse/wheelhouselaw36.GateDoes", spec := "gateDoes", unfollowed := true, recurses := true, apart := false, narrowed := true }
def GateDoesUptoSaid : Prop := gateDoesUptoRow.holds Try.pinned (OpenSpec.upto gateDoesSpec)

/-- 'wheelhouselaw36.GateKeeps', WHERE WHAT IT READS IS OF BULK AT MOST 1048576: true; the input reads as it did. -/
def gateKeepsUptoRow : OpenClaim := { program := "ytiheeopbifkalaa", sum := "6d7c9f7980cbbd5c3ce135e03dfa3d64686779de099360463722ae58e50c5be2", func := "wheelhouse/wheelhouselaw36.GateKeeps", spec := "gateKeeps", unfollowed := true, recurses := true, apart := false, narrowed := true }
def GateKeepsUptoSaid : Prop := gateKeepsUptoRow.holds Try.pinned (OpenSpec.upto gateKeepsSpec)

/-- 'wheelhouselaw36.GateShut', WHERE WHAT IT READS IS OF BULK AT MOST 1048576: true; the input reads as it did. -/
def gateShutUptoRow : OpenClaim := { program := "ytiheeopbifkalaa", sum := "6d7c9f7980cbbd5c3ce135e03dfa3d64686779de099360463722ae58e50c5be2", func := "wheelhouse/wheelhouselaw36.GateShut", spec := "gateShut", unfollowed := true, recurses := true, apart := false, narrowed := true }
def GateShutUptoSaid : Prop := gateShutUptoRow.holds Try.pinned (OpenSpec.upto gateShutSpec)

/-- 'wheelhouselaw25.VerbParses', WHERE WHAT IT READS IS OF BULK AT MOST 1048576: true; the input reads as it did. -/
def verbParsesUptoRow : OpenClaim := { program := "ytiheeopbifkalaa", sum := "6d7c9f7980cbbd5c3ce135e03dfa3d64686779de099360463722ae58e50c5be2", func := "wheelhouse/wheelhouselaw25.VerbParses", spec := "verbParses", unfollowed := true, recurses := true, apart := false, narrowed := true }
def VerbParsesUptoSaid : Prop := verbParsesUptoRow.holds Try.pinned (OpenSpec.upto verbParsesSpec)

/-- 'wheelhouselaw25.VerbBack', WHERE WHAT IT READS IS OF BULK AT MOST 1048576: true; the input reads as it did. -/
def verbBackUptoRow : OpenClaim := { program := "ytiheeopbifkalaa", sum := "6d7c9f7980cbbd5c3ce135e03dfa3d64686779de099360463722ae58e50c5be2", func := "wheelhouse/wheelhouselaw25.VerbBack", spec := "verbBack", unfollowed := true, recurses := true, apart := false, narrowed := true }
def VerbBackUptoSaid : Prop := verbBackUptoRow.holds Try.pinned (OpenSpec.upto verbBackSpec)

/-- 'wheelhouselaw25.VerbBlanks', WHERE WHAT IT READS IS OF BULK AT MOST 1048576: true; the input reads as it did. -/
def verbBlanksUptoRow : OpenClaim := { program := "ytiheeopbifkalaa", sum := "6d7c9f7980cbbd5c3ce135e03dfa3d64686779de099360463722ae58e50c5be2", func := "wheelhouse/wheelhouselaw25.VerbBlanks", spec := "verbBlanks", unfollowed := true, recurses := true, apart := false, narrowed := true }
def VerbBlanksUptoSaid : Prop := verbBlanksUptoRow.holds Try.pinned (OpenSpec.upto verbBlanksSpec)

/-- 'wheelhouselaw02.DigitPuts', WHERE WHAT IT READS IS OF BULK AT MOST 1048576: true; the input reads as it did. -/
def digitPutsUptoRow : OpenClaim := { program := "ytiheeopbifkalaa", sum := "6d7c9f7980cbbd5c3ce135e03dfa3d64686779de099360463722ae58e50c5be2", func := "wheelhouse/wheelhouselaw02.DigitPuts", spec := "digitPuts", recurses := true, apart := false, narrowed := true }
def DigitPutsUptoSaid : Prop := digitPutsUptoRow.holds Try.pinned (OpenSpec.upto digitPutsSpec)

/-- 'wheelhouselaw02.DigitReads', WHERE WHAT IT READS IS OF BULK AT MOST 1048576: true; the input reads as it did. -/
def digitReadsUptoRow : OpenClaim := { program := "ytiheeopbifkalaa", sum := "6d7c9f7980cbbd5c3ce135e03dfa3d64686779de099360463722ae58e50c5be2", func := "wheelhouse/wheelhouselaw02.DigitReads", spec := "digitReads", recurses := true, apart := false, narrowed := true }
def DigitReadsUptoSaid : Prop := digitReadsUptoRow.holds Try.pinned (OpenSpec.upto digitReadsSpec)

/-- 'wheelhouselaw02.DigitHex', WHERE WHAT IT READS IS OF BULK AT MOST 1048576: true; the input reads as it did. -/
def digitHexUptoRow : OpenClaim := { program := "ytiheeopbifkalaa", sum := "6d7c9f7980cbbd5c3ce135e03dfa3d64686779de099360463722ae58e50c5be2", func := "wheelhouse/wheelhouselaw02.DigitHex", spec := "digitHex", apart := false, narrowed := true }
def DigitHexUptoSaid : Prop := digitHexUptoRow.holds Try.pinned (OpenSpec.upto digitHexSpec)

/-- 'wheelhouselaw02.DigitShows', WHERE WHAT IT READS IS OF BULK AT MOST 1048576: true; the input reads as it did. -/
def digitShowsUptoRow : OpenClaim := { program := "ytiheeopbifkalaa", sum := "6d7c9f7980cbbd5c3ce135e03dfa3d64686779de099360463722ae58e50c5be2", func := "wheelhouse/wheelhouselaw02.DigitShows", spec := "digitShows", apart := false, narrowed := true }
def DigitShowsUptoSaid : Prop := digitShowsUptoRow.holds Try.pinned (OpenSpec.upto digitShowsSpec)

end Rows
end Go.Proofs.Ytiheeopbifkalaa

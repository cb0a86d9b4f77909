/-
  No cell of these rows narrows 'for every input' (looked for: loops, veiled, ifaces, maps, wideKeys, modest, calm, conditions, laid).
  DERIVED. THE GIVEN ROWS OF THIS SEAT. 3 by the template 'for every input the law returns true; each argument reads behind the call as it read before'; 0 by the template 'total and deterministic' (their statements: YtnfkkonmhinlcaaTotals.lean).
  GIVEN WITH THE SEED: the statements are not yours to turn. If you find one false, say at which input.
  Laid BY PROGRAM, IN A SANDBOX (cutbox-rows.mjs): the forced cells as the released guide's own fill.sh prints them over the translation edba8c3ad4c2ab1e… (all of the seat's roots in one cut). By AI agents, Wed Nov 11 2026. No macro, syntax, notation, axiom, sorry.
-/
import Derived.Test.YtnfkkonmhinlcaaChecked
import GoSem.Claim
import GoSem.ClaimJoined
import GoSem.ClaimMapViews
import Derived.JoinedTies
import Derived.KernelRfl
namespace Go.Proofs.Ytnfkkonmhinlcaa
/- THE CELL 'sum', in the pinned program and in every row, IS THE sha256 OF THE DUMP (.gsa) THAT YtnfkkonmhinlcaaProg.lean LOADS. Nothing in Lean hashes anything: it is a label: what it is worth is what the hold of that sum in a sandbox is worth. -/
noncomputable def Try.pinned : Pinned := { name := "ytnfkkonmhinlcaa", sum := "edba8c3ad4c2ab1e25fc5ad8ad9a41b93b788ad8f7a967930b38168f75898ce8", checked := Try.checked }
namespace Rows
def none {H : Type} : Left H := { results := [], args := [] }

/-- 'wheelhouselaw19.LineWrites': WHATEVER THE INPUT: true; the input reads as it did. -/
def lineWritesSpec : ChangeSpec := { name := "lineWrites", fn := fun _ => fun
  | [d] => { results := [.lit (.bool true)], args := [d] }
  | _ => none }
def lineWritesRow : OpenClaim := { program := "ytnfkkonmhinlcaa", sum := "edba8c3ad4c2ab1e25fc5ad8ad9a41b93b788ad8f7a967930b38168f75898ce8", func := "wheelhouse/wheelhouselaw19.LineWrites", spec := "lineWrites", unfollowed := true, recurses := true, apart := false }
def LineWritesSaid : Prop := lineWritesRow.holds Try.pinned (OpenSpec.ofChange lineWritesSpec)

/-- ITS FALSE NEIGHBOUR: 'it returns false'. Refute it at one input. -/
def lineWritesWrong : ChangeSpec := { name := "lineWrites", fn := fun _ => fun
  | [d] => { results := [.lit (.bool false)], args := [d] }
  | _ => none }
def LineWritesWrongFalsely : Prop := lineWritesRow.holds Try.pinned (OpenSpec.ofChange lineWritesWrong)

/-- 'wheelhouselaw19.LinePlays': WHATEVER THE INPUT: true; the input reads as it did. -/
def linePlaysSpec : ChangeSpec := { name := "linePlays", fn := fun _ => fun
  | [d1, d2, d3] => { results := [.lit (.bool true)], args := [d1, d2, d3] }
  | _ => none }
def linePlaysRow : OpenClaim := { program := "ytnfkkonmhinlcaa", sum := "edba8c3ad4c2ab1e25fc5ad8ad9a41b93b788ad8f7a967930b38168f75898ce8", func := "wheelhouse/wheelhouselaw19.LinePlays", spec := "linePlays", unfollowed := true, recurses := true, apart := false }
def LinePlaysSaid : Prop := linePlaysRow.holds Try.pinned (OpenSpec.ofChange linePlaysSpec)

/-- ITS FALSE NEIGHBOUR: 'it returns false'. Refute it at one input. -/
def linePlaysWrong : ChangeSpec := { name := "linePlays", fn := fun _ => fun
  | [d1, d2, d3] => { results := [.lit (.bool false)], args := [d1, d2, d3] }
  | _ => none }
def LinePlaysWrongFalsely : Prop := linePlaysRow.holds Try.pinned (OpenSpec.ofChange linePlaysWrong)

/-- 'wheelhouselaw19.LineRetries': WHATEVER THE INPUT: true; the input reads as it did. -/
def lineRetriesSpec : ChangeSpec := { name := "lineRetries", fn := fun _ => fun
  | [d1, d2, d3, d4] => { results := [.lit (.bool true)], args := [d1, d2, d3, d4] }
  | _ => none }
def lineRetriesRow : OpenClaim := { program := "ytnfkkonmhinlcaa", sum := "edba8c3ad4c2ab1e25fc5ad8ad9a41b93b788ad8f7a967930b38168f75898ce8", func := "wheelhouse/wheelhouselaw19.LineRetries", spec := "lineRetries", unfollowed := true, recurses := true, apart := false }
def LineRetriesSaid : Prop := lineRetriesRow.holds Try.pinned (OpenSpec.ofChange lineRetriesSpec)

/-- ITS FALSE NEIGHBOUR: 'it returns false'. Refute it at one input. -/
def lineRetriesWrong : ChangeSpec := { name := "lineRetries", fn := fun _ => fun
  | [d1, d2, d3, d4] => { results := [.lit (.bool false)], args := [d1, d2, d3, d4] }
  | _ => none }
def LineRetriesWrongFalsely : Prop := lineRetriesRow.holds Try.pinned (OpenSpec.ofChange lineRetriesWrong)

/- THE SECOND FORM. 'bulk': how many values and letters a reading holds, each counted each time it is reached (what is shared counts as often as it is met; a slice's spare places count too). A statement '..UptoSaid' is the law's where the arguments, and the package variables that the reading takes, are together of bulk at most 1048576: NARROWER than '..Said'. Prove '..Said' where nothing that the law and all that it calls make is longer than what came in: it says more and counts as full. Else prove '..UptoSaid'. A law counts once. -/
mutual
def uptoBulk {H : Type} : DataW H → Nat
  | .lit (.string bytes) => bytes.length + 1
  | .lit _ => 1
  | .nil => 1
  | .ptr d => uptoBulk d + 1
  | .slice elems spare => uptoBulkAll elems + uptoBulkAll spare + 1
  | .agg parts => uptoBulkAll parts + 1
  | .iface _ d => uptoBulk d + 1
  | .map entries => uptoBulkEntries entries + 1
  | .held _ => 1
def uptoBulkAll {H : Type} : List (DataW H) → Nat
  | [] => 0
  | d :: r => uptoBulk d + uptoBulkAll r
def uptoBulkEntries {H : Type} : List (Lit × DataW H) → Nat
  | [] => 0
  | x :: r => uptoBulkEntry x + uptoBulkEntries r
def uptoBulkEntry {H : Type} : Lit × DataW H → Nat
  | (.string bytes, d) => bytes.length + uptoBulk d + 1
  | (_, d) => uptoBulk d + 1
 end
def uptoSmall : (H : Type) → List (DataW H) → Bool := fun _ ds => decide (uptoBulkAll ds ≤ 1048576)
def OpenSpec.upto (s : _root_.Go.ChangeSpec) : _root_.Go.OpenSpec := { _root_.Go.OpenSpec.ofChange s with cond := some uptoSmall }

/-- 'wheelhouselaw19.LineWrites', WHERE WHAT IT READS IS OF BULK AT MOST 1048576: true; the input reads as it did. -/
def lineWritesUptoRow : OpenClaim := { program := "ytnfkkonmhinlcaa", sum := "edba8c3ad4c2ab1e25fc5ad8ad9a41b93b788ad8f7a967930b38168f75898ce8", func := "wheelhouse/wheelhouselaw19.LineWrites", spec := "lineWrites", unfollowed := true, recurses := true, apart := false, narrowed := true }
def LineWritesUptoSaid : Prop := lineWritesUptoRow.holds Try.pinned (OpenSpec.upto lineWritesSpec)

/-- 'wheelhouselaw19.LinePlays', WHERE WHAT IT READS IS OF BULK AT MOST 1048576: true; the input reads as it did. -/
def linePlaysUptoRow : OpenClaim := { program := "ytnfkkonmhinlcaa", sum := "edba8c3ad4c2ab1e25fc5ad8ad9a41b93b788ad8f7a967930b38168f75898ce8", func := "wheelhouse/wheelhouselaw19.LinePlays", spec := "linePlays", unfollowed := true, recurses := true, apart := false, narrowed := true }
def LinePlaysUptoSaid : Prop := linePlaysUptoRow.holds Try.pinned (OpenSpec.upto linePlaysSpec)

/-- 'wheelhouselaw19.LineRetries', WHERE WHAT IT READS IS OF BULK AT MOST 1048576: true; the input reads as it did. -/
def lineRetriesUptoRow : OpenClaim := { program := "ytnfkkonmhinlcaa", sum := "edba8c3ad4c2ab1e25fc5ad8ad9a41b93b788ad8f7a967930b38168f75898ce8", func := "wheelhouse/wheelhouselaw19.LineRetries", spec := "lineRetries", unfollowed := true, recurses := true, apart := false, narrowed := true }
def LineRetriesUptoSaid : Prop := lineRetriesUptoRow.holds Try.pinned (OpenSpec.upto lineRetriesSpec)

end Rows
end Go.Proofs.Ytnfkkonmhinlcaa

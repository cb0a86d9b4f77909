/-
  DERIVED. GIVEN WITH THE SEED: THE CARDS: each row of YtohjnbkehcdoaaaDoorRows.lean that lists a variable, with what it lists TIED to the program's text (the seventh form; the later family's looks); each row that meets fmt, with fmt's text TOLD by the authors' own Lean function (tested against real Go, not proved from fmt's source: count such statements apart). THE CARD IS WHAT COUNTS. Prove the row's statement (the work); the ties are given (YtohjnbkehcdoaaaDoorTie.lean); close each card by the builder's one call (the guide's Derived/Test/ToyasCard.lean, 'card_holds'). Laid BY PROGRAM, IN A SANDBOX (cutbox-door.mjs). By AI agents, Wed Nov 11 2026. No macro, syntax, notation, axiom, sorry.
-/
import Derived.Test.YtohjnbkehcdoaaaDoorRows
import GoSem.ClaimSeven
namespace Go.Proofs.YtohjnbkehcdoaaaDoor
namespace Rows

/-- THE TIED CARD OF 'wheelhouselaw38.EventPuts'. -/
def eventPutsCard : Claim7 := { stood := { row := eventPutsRow, standIns := [], harness := (true, "4cba1133a142c1af118696c5897542a639d2995c32ed498c7b04cd771ccbb305"), looks := true }, kinds := [], alts := [], laidByText := true, laidKinds := [.handle], laidTests := true, laidLooks := .later }
def EventPutsCardSaid : Prop := Claim7.holds Tryd.pinned (.plain (OpenSpec.ofChange eventPutsSpec)) eventPutsCard

/-- THE TIED CARD OF 'wheelhouselaw38.EventReads'. -/
def eventReadsCard : Claim7 := { stood := { row := eventReadsRow, standIns := [], harness := (true, "4cba1133a142c1af118696c5897542a639d2995c32ed498c7b04cd771ccbb305"), looks := true }, kinds := [], alts := [], laidByText := true, laidKinds := [.handle], laidTests := true, laidLooks := .later }
def EventReadsCardSaid : Prop := Claim7.holds Tryd.pinned (.plain (OpenSpec.ofChange eventReadsSpec)) eventReadsCard

/-- THE TIED CARD OF 'wheelhouselaw38.EventAll'. -/
def eventAllCard : Claim7 := { stood := { row := eventAllRow, standIns := [], harness := (true, "4cba1133a142c1af118696c5897542a639d2995c32ed498c7b04cd771ccbb305"), looks := true }, kinds := [], alts := [], laidByText := true, laidKinds := [.handle], laidTests := true, laidLooks := .later }
def EventAllCardSaid : Prop := Claim7.holds Tryd.pinned (.plain (OpenSpec.ofChange eventAllSpec)) eventAllCard

/-- THE SECOND FORM's CARD OF 'wheelhouselaw38.EventPuts'. -/
def eventPutsUptoCard : Claim7 := { stood := { row := eventPutsUptoRow, standIns := [], harness := (true, "4cba1133a142c1af118696c5897542a639d2995c32ed498c7b04cd771ccbb305"), looks := true }, kinds := [], alts := [], laidByText := true, laidKinds := [.handle], laidTests := true, laidLooks := .later }
def EventPutsUptoCardSaid : Prop := Claim7.holds Tryd.pinned (.plain (OpenSpec.upto eventPutsSpec)) eventPutsUptoCard

/-- THE SECOND FORM's CARD OF 'wheelhouselaw38.EventReads'. -/
def eventReadsUptoCard : Claim7 := { stood := { row := eventReadsUptoRow, standIns := [], harness := (true, "4cba1133a142c1af118696c5897542a639d2995c32ed498c7b04cd771ccbb305"), looks := true }, kinds := [], alts := [], laidByText := true, laidKinds := [.handle], laidTests := true, laidLooks := .later }
def EventReadsUptoCardSaid : Prop := Claim7.holds Tryd.pinned (.plain (OpenSpec.upto eventReadsSpec)) eventReadsUptoCard

/-- THE SECOND FORM's CARD OF 'wheelhouselaw38.EventAll'. -/
def eventAllUptoCard : Claim7 := { stood := { row := eventAllUptoRow, standIns := [], harness := (true, "4cba1133a142c1af118696c5897542a639d2995c32ed498c7b04cd771ccbb305"), looks := true }, kinds := [], alts := [], laidByText := true, laidKinds := [.handle], laidTests := true, laidLooks := .later }
def EventAllUptoCardSaid : Prop := Claim7.holds Tryd.pinned (.plain (OpenSpec.upto eventAllSpec)) eventAllUptoCard
end Rows
end Go.Proofs.YtohjnbkehcdoaaaDoor

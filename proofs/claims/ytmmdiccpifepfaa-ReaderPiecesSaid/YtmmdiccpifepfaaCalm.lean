/- A region that draws its order and holds calls that make memory but turn none: one walk in the order of the text, at the class 'nothing that lay at w0 has turned'. Plain lemmas over any program. -/
import Derived.Test.YtmmdiccpifepfaaMergedA
import Derived.BigQuiet
namespace Go.Proofs.Ytmmdiccpifepfaa
open Go.RowKit
section
variable {P : Program} {id : Nat} {Q : Exit → Act → World → Prop} {a : Act} {w w0 : World} {l : List Oper}
/-- The worlds in which all that lay at w0 lies as it did are named by I: the walk knows of g no more than that. -/
theorem wp_region_calm (hm : P.follows .mixedOrders = true) (hB : Region.lexB .any l.toArray = true) (hF : Fr No w0 w)
    (h : ∀ (I : Type) [Nonempty I] (g : I → World), (∀ i, Fr No w0 (g i)) → (∀ i w', Fr No (g i) w' → ∃ j, w' = g j) → wpQuiet P l.toArray (fun w' => ∃ i, w' = g i) (fun a' => ∀ w', (∃ i, w' = g i) → Q .normal a' w') l a) : (Code.region id l.toArray true).wp P Q a w := by
  have : Nonempty {x : World // Fr No w0 x} := ⟨⟨w0, Fr.refl _ _⟩⟩
  have h1 := h {x : World // Fr No w0 x} Subtype.val (fun i => i.2) (fun i w' hf => ⟨⟨w', i.2.then_no hf⟩, rfl⟩)
  refine wp_region_quiet (C := fun w' => ∃ i : {x : World // Fr No w0 x}, w' = i.1) hm hB ⟨⟨_, hF.drew⟩, rfl⟩ ?_
  rw [List.toList_toArray]
  exact h1
/-- A call there. -/
theorem calm_left {I : Type} {g : I → World} {f : FuncId} {args : Array Value} {v : Value} {i : I} (hcl : ∀ i w', Fr No (g i) w' → ∃ j, w' = g j) (h : Calls P f args (g i) fun e w' => e = .returned v ∧ Fr No (g i) w') : Calls P f args (g i) fun e w' => e = .returned v ∧ ∃ j, w' = g j :=
  h.mono fun _ _ ⟨he, hf⟩ => ⟨he, hcl _ _ hf⟩
end
end Go.Proofs.Ytmmdiccpifepfaa

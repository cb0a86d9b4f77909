/- Arrays as data: how an argument that has an array as a field is opened. Plain lemmas over any program. -/
import Derived.Test.YtompphakagoaeaaLaw
namespace Go.Proofs.Ytompphakagoaeaa
open Go.ChangeShapes Go.WideShapes Go.ChangeAt Go.RowKit
set_option linter.unusedVariables false

/-- n elements, one behind the other, of k cells each. -/
def RArr {α : Type} (n k : Nat) (R : Rd α) : Rd (List α) := fun w S cs l => l.length = n ∧ cs.length = n * k ∧ ∀ i (h : i < l.length), R w S ((cs.drop (i * k)).take k) l[i]
theorem RArr.stable {α : Type} {n k : Nat} {R : Rd α} (hR : R.Stable) : Rd.Stable (RArr n k R) :=
  ⟨fun ⟨h1, h2, h3⟩ hk hs => ⟨h1, h2, fun i h => hR.go (h3 i h) hk hs⟩⟩
theorem opn_arr {P : Program} {t e : TypeId} {α : Type} {R : Rd α} {n k : Nat} (ht : P.underlying t = some (.array n e)) (hc : P.cellsOf t = n * k) (he : P.cellsOf e = k) (hR : Opn P e R) : Opn P t (RArr n k R) := by
  intro H enc W S fuel cs d ps h hS
  obtain ⟨xs, m, _, hx, hl, hlen, hf⟩ := DataW.trod_array ht h
  simp only [Prod.mk.injEq] at hx
  obtain ⟨l, hll, hp⟩ := list_of_pos (p := fun i a => R W S ((cs.drop (i * k)).take k) a) n fun i hi => by
    have h1 := hf i hi
    rw [List.getElem?_eq_getElem (by omega), he] at h1
    exact hR (d := (xs[i]'(by omega)).1) (ps := (xs[i]'(by omega)).2) h1 fun p hp => hS p (by
      rw [hx.2]; exact List.mem_flatMap.2 ⟨xs[i]'(by omega), List.getElem_mem _, hp⟩)
  exact ⟨l, hll, by rw [hl, hc], hp⟩
end Go.Proofs.Ytompphakagoaeaa

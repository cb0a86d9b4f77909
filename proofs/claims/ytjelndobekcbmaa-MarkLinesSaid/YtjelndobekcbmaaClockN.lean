/- Package clock: number; its reference: two. -/
import Derived.Test.YtjelndobekcbmaaClockS
namespace Go.Proofs.Ytjelndobekcbmaa
open Go.RowKit
set_option linter.unusedVariables false
set_option linter.unusedSimpArgs false
namespace Clock
def isD (c : UInt8) : Prop := 48 ≤ c.toNat ∧ c.toNat ≤ 57
instance (c : UInt8) : Decidable (isD c) := by unfold isD; exact inferInstance
def val (s : Str) : Nat := s.foldl (fun n c => 10 * n + (c.toNat - 48)) 0
theorem val_snoc (s : Str) (c : UInt8) : val (s ++ [c]) = 10 * val s + (c.toNat - 48) := by simp [val]
def numR (t : Str) : Int × Bool := if ∀ c ∈ t, isD c then ((val t : Int), true) else (0, false)
theorem numR_yes {t : Str} (h : ∀ c ∈ t, isD c) : numR t = ((val t : Int), true) := by unfold numR; rw [if_pos h]
theorem numR_no {t : Str} (h : ¬ ∀ c ∈ t, isD c) : numR t = (0, false) := by unfold numR; rw [if_neg h]
/-- The number of two signs at a place. -/
def twoR (s : Str) (a : Nat) : Int := if h : a + 1 < s.length then (if isD s[a] ∧ isD s[a + 1] then 10 * ((s[a].toNat : Int) - 48) + (s[a + 1].toNat : Int) - 48 else 0) else 0
theorem twoR_bnd (s : Str) (a : Nat) : 0 ≤ twoR s a ∧ twoR s a ≤ 99 := by
  unfold twoR
  split
  · split
    · rename_i h; unfold isD at h; omega
    · omega
  · omega
end Clock
end Go.Proofs.Ytjelndobekcbmaa

/- Package brk: Put. Printed by gen_brkt.py. -/
import Derived.Test.YtnfkkonmhinlcaaBrkR
import Derived.BigQuiet
namespace Go.Proofs.Ytnfkkonmhinlcaa
open Go.RowKit
set_option linter.unusedVariables false
set_option linter.unusedSimpArgs false
namespace Brk
open Digit Sls
/-- Put's answer, said of the rest: p is the kind of what stands ahead, f the text so far. -/
noncomputable def putQ (p : Int) (f : Str) (l : List Op) : Str × Int := by
  classical exact if Good p l then (if 255 < (f ++ cat l).length then ([], 5) else (f ++ cat l, 0)) else ([], 1)
theorem putQ_start (l : List Op) : putR l = putQ 0 [] l := by unfold putR putQ; simp
theorem putQ_nil (p : Int) (f : Str) : putQ p f [] = if 255 < f.length then ([], 5) else (f, 0) := by
  unfold putQ
  rw [if_pos (Good.nil p)]
  simp [cat]
theorem putQ_on {p : Int} {f : Str} {x : Op} {l : List Op} {t : Str} (h : textR x = some t) (hp : ¬ (p = x.1 ∧ x.1 < 3)) : putQ p f (x :: l) = putQ x.1 (f ++ t) l := by
  have hx : Fine x := (text_fine x).1 (by rw [h]; rfl)
  have hg : Good p (x :: l) ↔ Good x.1 l := ⟨fun h => by cases h with | cons _ _ h => exact h, fun h => .cons hx hp h⟩
  have hc : cat (x :: l) = t ++ cat l := by simp [cat, text_yes h]
  unfold putQ
  by_cases hl : Good x.1 l
  · rw [if_pos (hg.2 hl), if_pos hl, hc, List.append_assoc]
  · rw [if_neg (fun h => hl (hg.1 h)), if_neg hl]
theorem putQ_bad {p : Int} {f : Str} {x : Op} {l : List Op} (h : textR x = none ∨ p = x.1 ∧ x.1 < 3) : putQ p f (x :: l) = ([], 1) := by
  unfold putQ
  rw [if_neg]
  intro hg
  cases hg with
  | cons hx hp _ =>
    rcases h with h | h
    · have := (text_fine x).2 hx
      rw [h] at this
      cases this
    · exact hp h
theorem fine_kind {x : Op} {t : Str} (h : textR x = some t) : x.1 = 1 ∨ x.1 = 2 ∨ x.1 = 3 := by
  have hx : Fine x := (text_fine x).1 (by rw [h]; rfl)
  cases hx <;> simp
/-- The kind of what stands ahead of place k; 0: nothing does. -/
def ahead (l : List Op) (k : Nat) : Int := if h : k ≠ 0 ∧ k - 1 < l.length then (l[k - 1]'h.2).1 else 0
theorem ahead_zero (l : List Op) : ahead l 0 = 0 := by unfold ahead; rw [dif_neg (by simp)]
theorem ahead_succ {l : List Op} {k : Nat} (h : k < l.length) : ahead l (k + 1) = l[k].1 := by
  unfold ahead
  rw [dif_pos ⟨by omega, by simpa using h⟩]
  simp
theorem drop_at {l : List Op} {k : Nat} (h : k < l.length) : l.drop k = l[k] :: l.drop (k + 1) := List.drop_eq_getElem_cons h
theorem tx_len {x : Op} (hs : x.2.1.length ≤ 255) (hn : x.2.2 ≤ 9223372036854775807) : (tx x).length ≤ 1100 := by
  unfold tx textR
  split
  · have := show_len x.2.1; simp; omega
  · split
    · have := (wait_len x.2.2.toNat (by omega) (by omega)).2; simp; omega
    · split <;> simp
end Brk
end Go.Proofs.Ytnfkkonmhinlcaa

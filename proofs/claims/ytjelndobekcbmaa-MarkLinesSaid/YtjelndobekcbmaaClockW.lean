/- The examples of the statements of package clock. -/
import Derived.Test.YtjelndobekcbmaaClockT
namespace Go.Proofs.Ytjelndobekcbmaa
open Go.RowKit
set_option linter.unusedVariables false
set_option linter.unusedSimpArgs false
namespace Clock
open Digit
theorem good_at {s : Str} {n y d a b c : Int} {k : Nat} (h : (2000 ≤ y ∧ y < 10000 ∧ k < 12 ∧ 1 ≤ d ∧ d ≤ ml y ((k : Int) + 1)) ∧ (0 ≤ a ∧ a < 24) ∧ (0 ≤ b ∧ b < 60) ∧ (0 ≤ c ∧ c < 60)) (hs : fmt y ((k : Int) + 1) d a b c = s) (hn : nOf y k d a b c = n) : Good s n ∧ dateR n = (y, (k : Int) + 1, d) := by
  obtain ⟨⟨h1, h2, h3, h4, h5⟩, h6, h7, h8⟩ := h
  have hg := good_of h1 h2 h3 ⟨h4, h5⟩ h6 h7 h8
  obtain ⟨hf, i0, i1⟩ := fld_of h1 h2 h3 ⟨h4, h5⟩ h6 h7 h8
  rw [hs, hn] at hg
  rw [hn] at hf i0 i1
  exact ⟨hg, dateR_in i0 i1 hf.i⟩
theorem wk1 : Good [50, 48, 50, 52, 45, 48, 50, 45, 50, 57, 32, 50, 51, 58, 53, 57, 58, 53, 57] 762566399 ∧ dateR 762566399 = (2024, 2, 29) := good_at (y := 2024) (k := 1) (d := 29) (a := 23) (b := 59) (c := 59) (by decide) (by decide) (by decide)
theorem wk2 : ∀ n, ¬ Good [50, 48, 50, 51, 45, 48, 50, 45, 50, 57, 32, 48, 48, 58, 48, 48, 58, 48, 48] n := by
  intro n h
  obtain ⟨y, k, d, a, b, c, hf, he, hy⟩ := h.fld
  obtain ⟨b1, b2, b3, b4, b5, b6⟩ := hf.bnd hy
  have hr := hf.rng
  obtain ⟨e1, e2, e3, e4, e5, e6⟩ := fmt_two b1 b2 b3 b4 b5 b6
  rw [← he] at e1 e2 e3
  have q1 : 100 * twoR [50, 48, 50, 51, 45, 48, 50, 45, 50, 57, 32, 48, 48, 58, 48, 48, 58, 48, 48] 0 + twoR [50, 48, 50, 51, 45, 48, 50, 45, 50, 57, 32, 48, 48, 58, 48, 48, 58, 48, 48] 2 = 2023 := by decide
  have q2 : twoR [50, 48, 50, 51, 45, 48, 50, 45, 50, 57, 32, 48, 48, 58, 48, 48, 58, 48, 48] 5 = 2 := by decide
  have q3 : twoR [50, 48, 50, 51, 45, 48, 50, 45, 50, 57, 32, 48, 48, 58, 48, 48, 58, 48, 48] 8 = 29 := by decide
  rw [q1] at e1
  rw [q2] at e2
  rw [q3] at e3
  obtain rfl : y = 2023 := e1.symm
  obtain rfl : d = 29 := e3.symm
  obtain rfl : k = 1 := by omega
  exact absurd hr.2.2.2.1 (by decide)
theorem wk3 : Good [50, 48, 48, 48, 45, 48, 49, 45, 48, 49, 32, 48, 48, 58, 48, 48, 58, 48, 48] 0 ∧ dateR 0 = (2000, 1, 1) := good_at (y := 2000) (k := 0) (d := 1) (a := 0) (b := 0) (c := 0) (by decide) (by decide) (by decide)
theorem wk4 : Good [57, 57, 57, 57, 45, 49, 50, 45, 51, 49, 32, 50, 51, 58, 53, 57, 58, 53, 57] 252455615999 ∧ dateR 252455615999 = (9999, 12, 31) := good_at (y := 9999) (k := 11) (d := 31) (a := 23) (b := 59) (c := 59) (by decide) (by decide) (by decide)
theorem wk5 : Good [50, 48, 50, 52, 45, 48, 51, 45, 48, 49, 32, 48, 48, 58, 48, 48, 58, 48, 48] 762566400 ∧ dateR 762566400 = (2024, 3, 1) := good_at (y := 2024) (k := 2) (d := 1) (a := 0) (b := 0) (c := 0) (by decide) (by decide) (by decide)
theorem wk6 : stampR 252455616000 = [] := by unfold stampR; rw [if_neg (by decide)]
theorem wk7 : spanR 90061 = [49, 100, 32, 48, 49, 58, 48, 49, 58, 48, 49] := by
  unfold spanR threeR
  rw [if_neg (by decide), if_pos (by decide), pad2 (by decide) (by decide), pad2 (by decide) (by decide), pad2 (by decide) (by decide)]
  simp [putR, dec]
  decide
theorem wk8 : spanR 59 = [48, 48, 58, 48, 48, 58, 53, 57] := by
  unfold spanR threeR
  rw [if_neg (by decide), if_neg (by decide), pad2 (by decide) (by decide), pad2 (by decide) (by decide), pad2 (by decide) (by decide)]
  decide
theorem wk9 : wdR 0 = 6 := by decide
end Clock
end Go.Proofs.Ytjelndobekcbmaa

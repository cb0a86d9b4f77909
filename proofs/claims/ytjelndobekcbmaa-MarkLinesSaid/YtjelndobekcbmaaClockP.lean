/- The days of years and months, and the date of a day: plain. -/
import Derived.Test.YtjelndobekcbmaaDigitPad
namespace Go.Proofs.Ytjelndobekcbmaa
open Go.RowKit
set_option linter.unusedVariables false
set_option linter.unusedSimpArgs false
namespace Clock
/-- How many days stand ahead of a year. -/
def ahd (y : Int) : Int := 365 * (y - 2000) + (y - 2000 + 3) / 4 - (y - 2000 + 99) / 100 + (y - 2000 + 399) / 400
def leapP (y : Int) : Prop := (y % 4 = 0 ∧ y % 100 ≠ 0) ∨ y % 400 = 0
instance (y : Int) : Decidable (leapP y) := inferInstanceAs (Decidable (_ ∨ _))
/-- How many days a month has. -/
def ml (y m : Int) : Int := if m = 2 then (if leapP y then 29 else 28) else if m = 4 ∨ m = 6 ∨ m = 9 ∨ m = 11 then 30 else 31
/-- How many days stand ahead of the month k + 1. -/
def bef (y : Int) : Nat → Int
  | 0 => 0
  | k + 1 => bef y k + ml y ((k : Int) + 1)
theorem ml2 (y : Int) : ml y 2 = if leapP y then 29 else 28 := by unfold ml; rw [if_pos rfl]
theorem ml_bnd (y m : Int) : 28 ≤ ml y m ∧ ml y m ≤ 31 := by
  unfold ml
  split
  · split <;> omega
  · split <;> omega
theorem ahd_step {y : Int} (h : 2000 ≤ y) : ahd (y + 1) = ahd y + 337 + ml y 2 := by
  rw [ml2]
  unfold ahd
  by_cases hl : leapP y
  · rw [if_pos hl]; unfold leapP at hl; omega
  · rw [if_neg hl]; unfold leapP at hl; omega
theorem ahd_400 (y : Int) : ahd (y + 400) = ahd y + 146097 := by unfold ahd; omega
theorem ml_400 (y m : Int) : ml (y + 400) m = ml y m := by
  have h : leapP (y + 400) ↔ leapP y := by unfold leapP; omega
  unfold ml
  by_cases hl : leapP y
  · simp [hl, h.2 hl]
  · have hl2 : ¬ leapP (y + 400) := fun e => hl (h.1 e)
    simp [hl, hl2]
theorem ahd_2000 : ahd 2000 = 0 := by decide
theorem ahd_up (y : Int) (h : 2000 ≤ y) : ∀ k : Nat, ahd y + 365 * k ≤ ahd (y + k)
  | 0 => by simp
  | k + 1 => by
    have ih := ahd_up y h k
    have hs := ahd_step (y := y + k) (by omega)
    have hm := ml_bnd (y + k) 2
    have e : y + ((k + 1 : Nat) : Int) = y + k + 1 := by omega
    rw [e, hs]
    omega
theorem ahd_lt {y z : Int} (h : 2000 ≤ y) (hz : y ≤ z) : ahd y + 365 * (z - y) ≤ ahd z := by
  have := ahd_up y h (z - y).toNat
  have e : y + ((z - y).toNat : Int) = z := by omega
  rw [e] at this
  omega
theorem ahd_366 {q : Int} (h : 0 ≤ q) : ahd (2000 + q) ≤ 366 * q := by unfold ahd; omega
theorem ahd_10000 : ahd 10000 = 2921940 := by decide
theorem bef_12 (y : Int) : bef y 12 = 337 + ml y 2 := by
  simp only [bef]
  have h1 : ml y ((0 : Nat) + 1) = 31 := by unfold ml; simp
  have h3 : ml y ((2 : Nat) + 1) = 31 := by unfold ml; simp
  have h4 : ml y ((3 : Nat) + 1) = 30 := by unfold ml; simp
  have h5 : ml y ((4 : Nat) + 1) = 31 := by unfold ml; simp
  have h6 : ml y ((5 : Nat) + 1) = 30 := by unfold ml; simp
  have h7 : ml y ((6 : Nat) + 1) = 31 := by unfold ml; simp
  have h8 : ml y ((7 : Nat) + 1) = 31 := by unfold ml; simp
  have h9 : ml y ((8 : Nat) + 1) = 30 := by unfold ml; simp
  have h10 : ml y ((9 : Nat) + 1) = 31 := by unfold ml; simp
  have h11 : ml y ((10 : Nat) + 1) = 30 := by unfold ml; simp
  have h12 : ml y ((11 : Nat) + 1) = 31 := by unfold ml; simp
  have h2 : ml y ((1 : Nat) + 1) = ml y 2 := rfl
  rw [h1, h2, h3, h4, h5, h6, h7, h8, h9, h10, h11, h12]
  omega
theorem bef_up (y : Int) {k j : Nat} (h : k ≤ j) : bef y k ≤ bef y j := by
  induction j with
  | zero => have : k = 0 := by omega
            subst this; exact Int.le_refl _
  | succ j ih =>
    by_cases hk : k = j + 1
    · subst hk; exact Int.le_refl _
    · have := ih (by omega)
      have := ml_bnd y ((j : Int) + 1)
      simp only [bef]
      omega
/-- The day D is the day d of the month k + 1 of the year y. -/
structure IsD (D y : Int) (k : Nat) (d : Int) : Prop where
  y0 : 2000 ≤ y
  y1 : ahd y ≤ D
  y2 : D < ahd (y + 1)
  k1 : bef y k ≤ D - ahd y
  k2 : D - ahd y < bef y (k + 1)
  d : d = D - ahd y - bef y k + 1
theorem IsD.lt {D y d : Int} {k : Nat} (h : IsD D y k d) : k < 12 := by
  have h1 := h.y2
  rw [ahd_step h.y0] at h1
  have h2 := h.k1
  by_cases hk : 12 ≤ k
  · have := bef_up y hk
    rw [bef_12] at this
    omega
  · omega
theorem IsD.only {D y d y' d' : Int} {k k' : Nat} (h : IsD D y k d) (h' : IsD D y' k' d') : y = y' ∧ k = k' ∧ d = d' := by
  have e : y = y' := by
    by_cases h1 : y < y'
    · have := ahd_lt (y := y + 1) (z := y') (by have := h.y0; omega) (by omega)
      have := h.y2; have := h'.y1; omega
    · by_cases h2 : y' < y
      · have := ahd_lt (y := y' + 1) (z := y) (by have := h'.y0; omega) (by omega)
        have := h'.y2; have := h.y1; omega
      · omega
  subst e
  have e : k = k' := by
    by_cases h1 : k < k'
    · have := bef_up y (show k + 1 ≤ k' from h1)
      have := h.k2; have := h'.k1; omega
    · by_cases h2 : k' < k
      · have := bef_up y (show k' + 1 ≤ k from h2)
        have := h'.k2; have := h.k1; omega
      · omega
  subst e
  exact ⟨rfl, rfl, by rw [h.d, h'.d]⟩
theorem year_ex {D : Int} (h0 : 0 ≤ D) : ∀ n : Nat, D < ahd (2000 + n) → ∃ y, 2000 ≤ y ∧ ahd y ≤ D ∧ D < ahd (y + 1)
  | 0, h => by rw [show (2000 : Int) + ((0 : Nat) : Int) = 2000 from rfl, ahd_2000] at h; omega
  | n + 1, h => by
    by_cases hn : D < ahd (2000 + n)
    · exact year_ex h0 n hn
    · exact ⟨2000 + n, by omega, by omega, by rw [show (2000 : Int) + n + 1 = 2000 + ((n + 1 : Nat) : Int) by omega]; exact h⟩
theorem month_ex {y d : Int} (h0 : 0 ≤ d) : ∀ n : Nat, d < bef y n → ∃ k, bef y k ≤ d ∧ d < bef y (k + 1)
  | 0, h => by simp only [bef] at h; omega
  | n + 1, h => by
    by_cases hn : d < bef y n
    · exact month_ex h0 n hn
    · exact ⟨n, by omega, h⟩
theorem isD_ex {D : Int} (h0 : 0 ≤ D) (h1 : D < 2921940) : ∃ y k d, IsD D y k d := by
  obtain ⟨y, y0, y1, y2⟩ := year_ex h0 8000 (by rw [show (2000 : Int) + ((8000 : Nat) : Int) = 10000 from rfl, ahd_10000]; exact h1)
  have y3 := y2
  rw [ahd_step y0] at y3
  obtain ⟨k, k1, k2⟩ := month_ex (y := y) (d := D - ahd y) (by omega) 12 (by rw [bef_12]; omega)
  exact ⟨y, k, _, y0, y1, y2, k1, k2, rfl⟩
open Classical in
/-- The date of a day. -/
noncomputable def dateD (D : Int) : Int × Nat × Int := if h : ∃ p : Int × Nat × Int, IsD D p.1 p.2.1 p.2.2 then Classical.choose h else (0, 0, 0)
theorem dateD_is {D : Int} (h0 : 0 ≤ D) (h1 : D < 2921940) : IsD D (dateD D).1 (dateD D).2.1 (dateD D).2.2 := by
  obtain ⟨y, k, d, h⟩ := isD_ex h0 h1
  have hh : ∃ p : Int × Nat × Int, IsD D p.1 p.2.1 p.2.2 := ⟨(y, k, d), h⟩
  unfold dateD
  rw [dif_pos hh]
  exact Classical.choose_spec hh
theorem dateD_eq {D y d : Int} {k : Nat} (h0 : 0 ≤ D) (h1 : D < 2921940) (h : IsD D y k d) : dateD D = (y, k, d) := by
  obtain ⟨a, b, c⟩ := (dateD_is h0 h1).only h
  exact Prod.ext a (Prod.ext b c)
def lastT : Int := 252455615999
/-- The date of a tick. -/
noncomputable def dateR (n : Int) : Int × Int × Int := if 0 ≤ n ∧ n ≤ lastT then ((dateD (n / 86400)).1, ((dateD (n / 86400)).2.1 : Int) + 1, (dateD (n / 86400)).2.2) else (0, 0, 0)
theorem dateR_in {n y d : Int} {k : Nat} (h0 : 0 ≤ n) (h1 : n ≤ lastT) (h : IsD (n / 86400) y k d) : dateR n = (y, (k : Int) + 1, d) := by
  unfold dateR
  rw [if_pos ⟨h0, h1⟩, dateD_eq (by omega) (by unfold lastT at h1; omega) h]
theorem dateR_out {n : Int} (h : ¬ (0 ≤ n ∧ n ≤ lastT)) : dateR n = (0, 0, 0) := by unfold dateR; rw [if_neg h]
theorem dateR_is {n : Int} (h0 : 0 ≤ n) (h1 : n ≤ lastT) : ∃ y k d, IsD (n / 86400) y k d ∧ dateR n = (y, (k : Int) + 1, d) := by
  obtain ⟨y, k, d, h⟩ := isD_ex (D := n / 86400) (by omega) (by unfold lastT at h1; omega)
  exact ⟨y, k, d, h, dateR_in h0 h1 h⟩
theorem IsD.bnd {D y d : Int} {k : Nat} (h : IsD D y k d) (h1 : D < 2921940) : y < 10000 ∧ 1 ≤ d ∧ d ≤ ml y ((k : Int) + 1) ∧ d ≤ 31 := by
  have hm := ml_bnd y ((k : Int) + 1)
  have hk := h.k1
  have h2 := h.k2
  simp only [bef] at h2
  have hd := h.d
  refine ⟨?_, by omega, by omega, by omega⟩
  by_cases hy : 10000 ≤ y
  · have := ahd_lt (y := 10000) (z := y) (by omega) hy
    rw [ahd_10000] at this
    have := h.y1
    omega
  · omega
def timeR (n : Int) : Int × Int × Int := if 0 ≤ n ∧ n ≤ lastT then (n % 86400 / 3600, n % 86400 % 3600 / 60, n % 86400 % 60) else (0, 0, 0)
def wdR (n : Int) : Int := if 0 ≤ n ∧ n ≤ lastT then (n / 86400 + 5) % 7 + 1 else 0
end Clock
end Go.Proofs.Ytjelndobekcbmaa

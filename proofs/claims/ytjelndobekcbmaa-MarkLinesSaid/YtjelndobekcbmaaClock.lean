/- Package clock and its reference: years, months, dates. -/
import Derived.Test.YtjelndobekcbmaaClockP
namespace Go.Proofs.Ytjelndobekcbmaa
open Go.RowKit
set_option linter.unusedVariables false
set_option linter.unusedSimpArgs false
namespace Clock
theorem in_yes {n : Int} (h : 0 ≤ n ∧ n ≤ lastT) (w : World) : Calls Try.prog 76 #[.int .i64 n] w fun e w' => e = .returned (.bool true) ∧ w = w' := by
  unfold lastT at h
  have h1 := h.1
  have h2 := h.2
  go_enter Try.func76, Try.ntmps76
  go_wp2
  go_ret
  exact ⟨by first | rfl | (simp; done) | (simp; omega), rfl⟩
theorem in_no {n : Int} (h : ¬ (0 ≤ n ∧ n ≤ lastT)) (w : World) : Calls Try.prog 76 #[.int .i64 n] w fun e w' => e = .returned (.bool false) ∧ w = w' := by
  unfold lastT at h
  by_cases h1 : 0 ≤ n
  · have h2 : 252455615999 < n := by omega
    go_enter Try.func76, Try.ntmps76
    go_wp2
    go_ret
    exact ⟨by first | rfl | (simp; done) | (simp; omega), rfl⟩
  · have h2 : n < 0 := by omega
    go_enter Try.func76, Try.ntmps76
    go_wp2
    go_ret
    exact ⟨by first | rfl | (simp; done) | (simp; omega), rfl⟩
theorem leap_any {y : Int} (h : 0 ≤ y) (w : World) : Calls Try.prog 85 #[.int .i64 y] w fun e w' => e = .returned (.bool (decide (leapP y))) ∧ w = w' := by
  by_cases h1 : y % 4 = 0
  · by_cases h2 : y % 100 = 0
    · by_cases h3 : y % 400 = 0
      all_goals
        have hL : decide (leapP y) = decide (y % 400 = 0) := by simp [leapP, h1, h2]
        rw [hL]
        have HL := Lib.hid h3
        go_enter Try.func85, Try.ntmps85
        go_wp2
        go_ret
        exact ⟨by simp [h3], rfl⟩
    · have hL : decide (leapP y) = true := by simp [leapP, h1, h2]
      rw [hL]
      go_enter Try.func85, Try.ntmps85
      go_wp2
      go_ret
      exact ⟨by simp [h1, h2], rfl⟩
  · have h3 : ¬ y % 400 = 0 := by omega
    have hL : decide (leapP y) = false := by simp [leapP, h1, h3]
    rw [hL]
    go_enter Try.func85, Try.ntmps85
    go_wp2
    go_ret
    exact ⟨by simp [h1, h3], rfl⟩
theorem ahead_any {y : Int} (h : 2000 ≤ y) (h2 : y ≤ 100000) (w : World) : Calls Try.prog 83 #[.int .i64 y] w fun e w' => e = .returned (.int .i64 (ahd y)) ∧ w = w' := by
  go_enter Try.func83, Try.ntmps83
  go_wp2
  go_ret
  exact ⟨rfl, rfl⟩
/-- The days of the twelve months. -/
def monthsV (y : Int) : Array Value := #[.int .i64 31, .int .i64 (ml y 2), .int .i64 31, .int .i64 30, .int .i64 31, .int .i64 30, .int .i64 31, .int .i64 31, .int .i64 30, .int .i64 31, .int .i64 30, .int .i64 31]
theorem monthsV_at (y : Int) {k : Nat} (h : k < 12) : (monthsV y)[k]? = some (.int .i64 (ml y ((k : Int) + 1))) := by
  rcases k with _ | _ | _ | _ | _ | _ | _ | _ | _ | _ | _ | _ | k
  all_goals first | (simp [monthsV, ml]; done) | rfl | omega
theorem months_any {y : Int} (h : 2000 ≤ y) (h2 : y ≤ 100000) (w : World) : Calls Try.prog 84 #[.int .i64 y] w fun e w' => e = .returned (.agg (monthsV y)) ∧ Fr No w w' := by
  by_cases hl : leapP y
  · have hm : monthsV y = #[.int .i64 31, .int .i64 29, .int .i64 31, .int .i64 30, .int .i64 31, .int .i64 30, .int .i64 31, .int .i64 31, .int .i64 30, .int .i64 31, .int .i64 30, .int .i64 31] := by unfold monthsV; rw [ml2, if_pos hl]
    have hd : decide (leapP y) = true := decide_eq_true hl
    rw [hm]
    clear hm hl
    go_enter Try.func84, Try.ntmps84
    go_wp2_with (go_at_call 85; refine (leap_any (by omega) _).mono ?_; rintro e w1 ⟨rfl, rfl⟩; rw [hd])
    refine bodyPost_ret (v := .agg #[.int .i64 31, .int .i64 29, .int .i64 31, .int .i64 30, .int .i64 31, .int .i64 30, .int .i64 31, .int .i64 31, .int .i64 30, .int .i64 31, .int .i64 30, .int .i64 31]) ?_ rfl ⟨rfl, ((Fr.refl _ _).alloc _).alloc _⟩
    simp [results, Try.f84, go_sem]
  · have hm : monthsV y = #[.int .i64 31, .int .i64 28, .int .i64 31, .int .i64 30, .int .i64 31, .int .i64 30, .int .i64 31, .int .i64 31, .int .i64 30, .int .i64 31, .int .i64 30, .int .i64 31] := by unfold monthsV; rw [ml2, if_neg hl]
    have hd : decide (leapP y) = false := decide_eq_false hl
    rw [hm]
    clear hm hl
    go_enter Try.func84, Try.ntmps84
    go_wp2_with (go_at_call 85; refine (leap_any (by omega) _).mono ?_; rintro e w1 ⟨rfl, rfl⟩; rw [hd])
    refine bodyPost_ret (v := .agg #[.int .i64 31, .int .i64 28, .int .i64 31, .int .i64 30, .int .i64 31, .int .i64 30, .int .i64 31, .int .i64 31, .int .i64 30, .int .i64 31, .int .i64 30, .int .i64 31]) ?_ rfl ⟨rfl, ((Fr.refl _ _).alloc _).alloc _⟩
    simp [results, Try.f84, go_sem]
theorem long_any {y m : Int} (h : 0 ≤ y) (w : World) : Calls Try.prog 81 #[.int .i64 y, .int .i64 m] w fun e w' => e = .returned (.int .i64 (ml y m)) ∧ w = w' := by
  by_cases h2 : m = 2
  · subst h2
    by_cases h3 : y % 400 = 0
    · have hm : ml y 2 = 29 := by rw [ml2, if_pos (.inr h3)]
      rw [hm]
      go_enter Try.func81, Try.ntmps81
      go_wp2
      go_ret
      exact ⟨rfl, rfl⟩
    · have e3 : (y % 400 == 0) = false := beq_eq_false_iff_ne.2 h3
      by_cases h4 : y % 100 = 0
      · have e4 : (y % 100 != 0) = false := by rw [h4]; rfl
        have hm : ml y 2 = 28 := by rw [ml2, if_neg (by unfold leapP; omega)]
        rw [hm]
        clear hm h3 h4
        go_enter Try.func81, Try.ntmps81
        go_wp2
        go_ret
        exact ⟨rfl, rfl⟩
      · have e4 : (y % 100 != 0) = true := by simpa using h4
        by_cases h5 : y % 4 = 0
        · have e5 : (y % 4 == 0) = true := by rw [h5]; rfl
          have hm : ml y 2 = 29 := by rw [ml2, if_pos (.inl ⟨h5, h4⟩)]
          rw [hm]
          clear hm h3 h4 h5
          go_enter Try.func81, Try.ntmps81
          go_wp2
          go_ret
          exact ⟨rfl, rfl⟩
        · have e5 : (y % 4 == 0) = false := beq_eq_false_iff_ne.2 h5
          have hm : ml y 2 = 28 := by rw [ml2, if_neg (by unfold leapP; omega)]
          rw [hm]
          clear hm h3 h4 h5
          go_enter Try.func81, Try.ntmps81
          go_wp2
          go_ret
          exact ⟨rfl, rfl⟩
  · by_cases h3 : m = 4 ∨ m = 6 ∨ m = 9 ∨ m = 11
    · have hm : ml y m = 30 := by unfold ml; rw [if_neg h2, if_pos h3]
      rw [hm]
      clear hm h2
      rcases h3 with rfl | rfl | rfl | rfl
      all_goals
        go_enter Try.func81, Try.ntmps81
        go_wp2
        go_ret
        exact ⟨rfl, rfl⟩
    · have hm : ml y m = 31 := by unfold ml; rw [if_neg h2, if_neg h3]
      rw [hm]
      have g4 : (m == 4) = false := beq_eq_false_iff_ne.2 (by omega)
      have g6 : (m == 6) = false := beq_eq_false_iff_ne.2 (by omega)
      have g9 : (m == 9) = false := beq_eq_false_iff_ne.2 (by omega)
      have g11 : (m == 11) = false := beq_eq_false_iff_ne.2 (by omega)
      have g2 : (m == 2) = false := beq_eq_false_iff_ne.2 (by omega)
      clear hm h2 h3
      go_enter Try.func81, Try.ntmps81
      go_wp2
      go_ret
      exact ⟨rfl, rfl⟩
end Clock
end Go.Proofs.Ytjelndobekcbmaa

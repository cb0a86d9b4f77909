/- The reference's date. -/
import Derived.Test.YtjelndobekcbmaaClockD
namespace Go.Proofs.Ytjelndobekcbmaa
open Go.RowKit
set_option linter.unusedVariables false
set_option linter.unusedSimpArgs false
namespace Clock
theorem ml2_bnd (y : Int) : 28 ≤ ml y 2 ∧ ml y 2 ≤ 29 := by rw [ml2]; split <;> omega
set_option maxRecDepth 100000 in
set_option maxHeartbeats 2000000 in
theorem rdate_any (n : Int) (w : World) : Calls Try.prog 71 #[.int .i64 n] w fun e w' => e = .returned (tri (dateR n)) ∧ w = w' := by
  by_cases h : 0 ≤ n ∧ n ≤ lastT
  · obtain ⟨D, hD⟩ : ∃ D, D = n / 86400 := ⟨_, rfl⟩
    have HD := Lib.hid (fun y k d (hh : IsD D y k d) => tri_eq (n := n) (y := y) (k := k) (d := d) h.1 h.2 (hD ▸ hh))
    have h1 := h.1
    have h2 : n ≤ 252455615999 := h.2
    have hD0 : 0 ≤ D ∧ D < 2921940 := by omega
    have hDq : n / 86400 = D := hD.symm
    clear hD h
    go_enter Try.func71, Try.ntmps71
    go_wp2
    rw [hDq]
    go_loop [5, 6] (fun a b => ∃ y x : Int, a = .int .i64 x ∧ b = .int .i64 y ∧ 2000 ≤ y ∧ y ≤ 10000 ∧ 0 ≤ x ∧ x ≤ D ∧ Hid (x = D - ahd y)) (fun a _ => (intOf a).toNat)
    case atStart => exact ⟨2000, D, rfl, rfl, by omega, by omega, by omega, by omega, by rw [ahd_2000]; exact Lib.hid (by omega)⟩
    case round =>
      obtain ⟨y, x, rfl, rfl, hy, hy2, hx0, hx1, HX⟩ := hrel
      have hlow := ahd_lt (y := 2000) (z := y) (by omega) hy
      rw [ahd_2000] at hlow
      have hx := HX.out
      by_cases hlt : 146097 ≤ x
      · have hyy := ahd_400 y
        have hy3 : y + 400 ≤ 10000 := by
          by_cases e : y + 400 ≤ 10000
          · exact e
          · have := ahd_lt (y := 10000) (z := y + 400) (by omega) (by omega)
            rw [ahd_10000] at this
            omega
        have HY := Lib.hid hyy
        clear hyy hlow hx
        go_wp2
        go_round
        case rel => exact ⟨y + 400, x - 146097, by go_num, by go_num, by omega, by omega, by omega, by omega, Lib.hid (by rw [HY.out, HX.out]; omega)⟩
        case measure => simp [intOf]; omega
      · clear hlow hx
        go_wp2
        go_loop [5, 6] (fun a b => ∃ y x : Int, a = .int .i64 x ∧ b = .int .i64 y ∧ 2000 ≤ y ∧ y ≤ 10000 ∧ 0 ≤ x ∧ x ≤ D ∧ Hid (x = D - ahd y)) (fun a _ => (intOf a).toNat)
        case atStart => exact ⟨y, x, rfl, rfl, by omega, by omega, by omega, by omega, HX⟩
        case round =>
          clear hlt HX hy hy2 hx0 hx1
          obtain ⟨y, x, rfl, rfl, hy, hy2, hx0, hx1, HX⟩ := hrel
          have hlow := ahd_lt (y := 2000) (z := y) (by omega) hy
          rw [ahd_2000] at hlow
          have hx := HX.out
          have hs := ahd_step hy
          have hm := ml2_bnd y
          have hlg := fun w => long_any (y := y) (m := 2) (by omega) w
          obtain ⟨m, hm2⟩ : ∃ m, ml y 2 = m := ⟨_, rfl⟩
          rw [hm2] at hs hm hlg
          by_cases hlt : 337 + m ≤ x
          · have hy3 : y + 1 ≤ 10000 := by
              by_cases e : y + 1 ≤ 10000
              · exact e
              · have := ahd_lt (y := 10000) (z := y) (by omega) (by omega)
                rw [ahd_10000] at this
                omega
            have HY := Lib.hid hs
            clear hs hlow hx hm2
            go_wp2_with (go_at_call 81; refine (hlg _).mono ?_; rintro e w1 ⟨rfl, rfl⟩)
            go_round
            case rel => exact ⟨y + 1, x - 337 - m, by go_num, by go_num, by omega, by omega, by omega, by omega, Lib.hid (by rw [HY.out, HX.out]; omega)⟩
            case measure => simp [intOf]; omega
          · have hy1 : ahd y ≤ D := by omega
            have hy2 : D < ahd (y + 1) := by omega
            have HI := Lib.hid (fun k d h1 h2 h3 => (⟨hy, hy1, hy2, h1, h2, h3⟩ : IsD D y k d))
            have HB := Lib.hid (show x < bef y 12 by rw [bef_12, hm2]; omega)
            clear hs hlow hx hm2 hy1 hy2
            go_wp2_with (go_at_call 81; refine (hlg _).mono ?_; rintro e w1 ⟨rfl, rfl⟩)
            go_loop [5, 7] (fun a b => ∃ k : Nat, a = .int .i64 (x - bef y k) ∧ b = .int .i64 ((k : Int) + 1) ∧ k ≤ 12 ∧ bef y k ≤ x) (fun _ b => 14 - (intOf b).toNat)
            case atStart => exact ⟨0, by simp [bef], rfl, by omega, by simp only [bef]; omega⟩
            case round =>
              obtain ⟨k, rfl, rfl, hk, hkr⟩ := hrel
              have hk12 : k < 12 := by
                by_cases e : k = 12
                · subst e; have := HB.out; omega
                · omega
              have hbs := Lib.hid (show bef y (k + 1) = bef y k + ml y ((k : Int) + 1) from rfl)
              have hmb := ml_bnd y ((k : Int) + 1)
              have hlk := fun w => long_any (y := y) (m := (k : Int) + 1) (by omega) w
              have HI2 := Lib.hid (HI.out k (x - bef y k + 1))
              have HD2 := Lib.hid (HD.out y k (x - bef y k + 1))
              have hb0 : 0 ≤ bef y k := bef_up y (Nat.zero_le k)
              obtain ⟨b, hb⟩ : ∃ b, bef y k = b := ⟨_, rfl⟩
              rw [hb] at hkr hbs HI2 HD2 hb0 ⊢
              obtain ⟨mk, hmk⟩ : ∃ mk, ml y ((k : Int) + 1) = mk := ⟨_, rfl⟩
              rw [hmk] at hbs hmb hlk
              clear hb hmk hlg
              by_cases hlt : x - b < mk
              · have HHX := HX
                go_wp2_with (go_at_call 81; refine (hlk _).mono ?_; rintro e w1 ⟨rfl, rfl⟩)
                go_ret3
                exact ⟨congrArg Ending.returned (HD2.out (HI2.out (by rw [← HX.out]; omega) (by rw [hbs.out, ← HX.out]; omega) (by rw [← HX.out]))).symm, rfl⟩
              · go_wp2_with (go_at_call 81; refine (hlk _).mono ?_; rintro e w1 ⟨rfl, rfl⟩)
                go_round
                case rel => exact ⟨k + 1, by rw [hbs.out]; go_num, by go_num, by omega, by rw [hbs.out]; omega⟩
                case measure => simp [intOf]; omega
  · rw [tri_out h]
    rcases out_cases h with h1 | ⟨h1, h2⟩
    all_goals
      clear h
      go_enter Try.func71, Try.ntmps71
      go_wp2
      go_ret3
      exact ⟨rfl, rfl⟩
end Clock
end Go.Proofs.Ytjelndobekcbmaa

/- Package clock and its reference: dates, times and days of the week. -/
import Derived.Test.YtjelndobekcbmaaClock
namespace Go.Proofs.Ytjelndobekcbmaa
open Go.RowKit
set_option linter.unusedVariables false
set_option linter.unusedSimpArgs false
namespace Clock
theorem quo_nn {a b : Int} (h : 0 ≤ a) : a.tdiv b = a / b := Int.tdiv_eq_ediv_of_nonneg h
def tri (p : Int × Int × Int) : Value := .tuple #[.int .i64 p.1, .int .i64 p.2.1, .int .i64 p.2.2]
theorem time_any (n : Int) (w : World) : Calls Try.prog 78 #[.int .i64 n] w fun e w' => e = .returned (tri (timeR n)) ∧ w = w' := by
  by_cases h : 0 ≤ n ∧ n ≤ lastT
  · have hr : tri (timeR n) = .tuple #[.int .i64 (n % 86400 / 3600), .int .i64 (n % 86400 / 60 % 60), .int .i64 (n % 86400 % 60)] := by
      unfold timeR tri; rw [if_pos h]; have e : n % 86400 % 3600 / 60 = n % 86400 / 60 % 60 := by omega
      rw [e]
    rw [hr]
    have h1 := h.1
    have h2 : n ≤ 252455615999 := h.2
    go_enter Try.func78, Try.ntmps78
    go_wp2_with (go_at_call 76; refine (in_yes h _).mono ?_; rintro e w1 ⟨rfl, rfl⟩)
    go_ret3
    exact ⟨rfl, rfl⟩
  · have hr : tri (timeR n) = .tuple #[.int .i64 0, .int .i64 0, .int .i64 0] := by unfold timeR; rw [if_neg h]; rfl
    rw [hr]
    go_enter Try.func78, Try.ntmps78
    go_wp2_with (go_at_call 76; refine (in_no h _).mono ?_; rintro e w1 ⟨rfl, rfl⟩)
    go_ret3
    exact ⟨rfl, rfl⟩
theorem out_cases {n : Int} (h : ¬ (0 ≤ n ∧ n ≤ lastT)) : n < 0 ∨ (0 ≤ n ∧ 252455615999 < n) := by unfold lastT at h; omega
theorem rtime_any (n : Int) (w : World) : Calls Try.prog 72 #[.int .i64 n] w fun e w' => e = .returned (tri (timeR n)) ∧ w = w' := by
  by_cases h : 0 ≤ n ∧ n ≤ lastT
  · have hr : tri (timeR n) = .tuple #[.int .i64 (n % 86400 / 3600), .int .i64 (n % 3600 / 60), .int .i64 (n % 86400 % 60)] := by
      unfold timeR tri; rw [if_pos h]; have e : n % 86400 % 3600 / 60 = n % 3600 / 60 := by omega
      rw [e]
    rw [hr]
    have h1 := h.1
    have h2 : n ≤ 252455615999 := h.2
    clear h
    go_enter Try.func72, Try.ntmps72
    go_wp2
    go_ret3
    exact ⟨rfl, rfl⟩
  · have hr : tri (timeR n) = .tuple #[.int .i64 0, .int .i64 0, .int .i64 0] := by unfold timeR; rw [if_neg h]; rfl
    rw [hr]
    rcases out_cases h with h1 | ⟨h1, h2⟩
    all_goals
      clear h
      go_enter Try.func72, Try.ntmps72
      go_wp2
      go_ret3
      exact ⟨rfl, rfl⟩
theorem tri_eq {n y d : Int} {k : Nat} (h0 : 0 ≤ n) (h1 : n ≤ lastT) (h : IsD (n / 86400) y k d) : tri (dateR n) = .tuple #[.int .i64 y, .int .i64 ((k : Int) + 1), .int .i64 d] := by rw [dateR_in h0 h1 h]; rfl
theorem tri_out {n : Int} (h : ¬ (0 ≤ n ∧ n ≤ lastT)) : tri (dateR n) = .tuple #[.int .i64 0, .int .i64 0, .int .i64 0] := by rw [dateR_out h]; rfl
theorem index_month (y : Int) (W : World) (k : Nat) (h : k < 12) : (Instr.index 117 (.agg (monthsV y)) (.int .i64 k)).run Try.prog W = .ok (.int .i64 (ml y ((k : Int) + 1))) W := by
  obtain rfl | rfl | rfl | rfl | rfl | rfl | rfl | rfl | rfl | rfl | rfl | rfl : k = 0 ∨ k = 1 ∨ k = 2 ∨ k = 3 ∨ k = 4 ∨ k = 5 ∨ k = 6 ∨ k = 7 ∨ k = 8 ∨ k = 9 ∨ k = 10 ∨ k = 11 := by omega
  all_goals (show _ = _; kernel_rfl)
set_option maxRecDepth 100000 in
set_option maxHeartbeats 2000000 in
theorem date_any (n : Int) (w : World) : Calls Try.prog 77 #[.int .i64 n] w fun e w' => e = .returned (tri (dateR n)) ∧ Fr No w w' := by
  by_cases h : 0 ≤ n ∧ n ≤ lastT
  · obtain ⟨D, hD⟩ : ∃ D, D = n / 86400 := ⟨_, rfl⟩
    have HD := Lib.hid (fun y k d (hh : IsD D y k d) => tri_eq (n := n) (y := y) (k := k) (d := d) h.1 h.2 (hD ▸ hh))
    have h1 := h.1
    have h2 : n ≤ 252455615999 := h.2
    have hD0 : 0 ≤ D ∧ D < 2921940 := by omega
    have hDq : n / 86400 = D := hD.symm
    clear hD
    go_enter Try.func77, Try.ntmps77
    go_wp2_with (go_at_call 76; refine (in_yes h _).mono ?_; rintro e w1 ⟨rfl, rfl⟩)
    rw [hDq]
    go_loop [6] (fun a => ∃ y : Int, a = .int .i64 y ∧ 2000 ≤ y ∧ y < 10000 ∧ ahd y ≤ D) (fun a => 10000 - (intOf a).toNat)
    case atStart => exact ⟨2000 + D / 366, by go_num, by omega, by omega, by have := ahd_366 (q := D / 366) (by omega); omega⟩
    case round =>
      obtain ⟨y, rfl, hy, hy2, hy3⟩ := hrel
      by_cases hlt : ahd (y + 1) ≤ D
      · go_wp2_with (go_at_call 83; refine (ahead_any (by omega) (by omega) _).mono ?_; rintro e w1 ⟨rfl, rfl⟩)
        go_round
        case rel => exact ⟨y + 1, by go_num, by omega, by
          by_cases e : y + 1 = 10000
          · rw [e, ahd_10000] at hlt; omega
          · omega, hlt⟩
        case measure => simp [intOf]; omega
      · have hlt2 : D < ahd (y + 1) := by omega
        have hst := ahd_step hy
        have hbn := ahd_lt (y := 2000) (z := y) (by omega) hy
        rw [ahd_2000] at hbn
        have hm2 : ml y 2 ≤ 29 := by rw [ml2]; split <;> omega
        obtain ⟨r, hr⟩ : ∃ r, r = D - ahd y := ⟨_, rfl⟩
        have hr0 : 0 ≤ r ∧ r < 366 := by omega
        obtain ⟨A, hA⟩ : ∃ A, ahd y = A := ⟨_, rfl⟩
        have HA := Lib.hid hA
        have hrA : D - A = r := by omega
        have hA2 : 0 ≤ A ∧ A ≤ D := by omega
        have HB := Lib.hid (show r < bef y 12 by rw [bef_12]; omega)
        have HI := Lib.hid (fun k d h1 h2 h3 => (⟨hy, by omega, hlt2, h1, h2, h3⟩ : IsD D y k d))
        have hah := ahead_any hy (by omega) 
        rw [hA] at hah
        have hah1 := fun w => ahead_any (y := y + 1) (by omega) (by omega) w
        clear hr hA hst hbn hm2 hlt
        go_wp2_with (first | (go_at_call 83; ((first | with_reducible refine (hah _).mono ?_ | with_reducible refine (hah1 _).mono ?_); rintro e w1 ⟨rfl, rfl⟩)) | (go_at_call 84; refine (months_any hy (by omega) _).mono ?_; rintro e w1 ⟨rfl, hf1⟩; have Hf1 := Lib.hid hf1; clear hf1))
        have hq := fun k (h : k < 12) W => index_month y W k h
        generalize monthsV y = vs at hq ⊢
        have Hq := Lib.hid hq
        clear hq hah hah1
        go_loop [5, 30] (fun a b => ∃ k : Nat, a = .int .i64 (r - bef y k) ∧ b = .int .i64 k ∧ k ≤ 12 ∧ bef y k ≤ r) (fun _ b => 12 - (intOf b).toNat)
        case atStart => exact ⟨0, by simp [bef], rfl, by omega, by simp only [bef]; omega⟩
        case round =>
          obtain ⟨k, rfl, rfl, hk, hkr⟩ := hrel
          have hk12 : k < 12 := by
            by_cases e : k = 12
            · subst e; have := HB.out; omega
            · omega
          have hqk := Hq.out k hk12
          have hbs := Lib.hid (show bef y (k + 1) = bef y k + ml y ((k : Int) + 1) from rfl)
          have hmb := ml_bnd y ((k : Int) + 1)
          have HI2 := Lib.hid (HI.out k (r - bef y k + 1))
          have HD2 := Lib.hid (HD.out y k (r - bef y k + 1))
          obtain ⟨b, hb⟩ : ∃ b, bef y k = b := ⟨_, rfl⟩
          rw [hb] at hkr hbs HI2 HD2 ⊢
          obtain ⟨m, hm⟩ : ∃ m, ml y ((k : Int) + 1) = m := ⟨_, rfl⟩
          rw [hm] at hqk hbs hmb
          have hb0 : 0 ≤ b := by have := bef_up y (Nat.zero_le k); rw [hb] at this; exact this
          clear hb hm
          by_cases hlt : r - b < m
          · go_wp2
            go_ret3
            exact ⟨congrArg Ending.returned (HD2.out (HI2.out (by rw [HA.out]; omega) (by rw [hbs.out, HA.out]; omega) (by rw [HA.out]; omega))).symm, Hf1.out⟩
          · go_wp2
            go_round
            case rel => exact ⟨k + 1, by rw [hbs.out]; go_num, by go_num, by omega, by rw [hbs.out]; omega⟩
            case measure => simp [intOf]; omega
  · rw [tri_out h]
    go_enter Try.func77, Try.ntmps77
    go_wp2_with (go_at_call 76; refine (in_no h _).mono ?_; rintro e w1 ⟨rfl, rfl⟩)
    go_ret3
    exact ⟨rfl, Fr.refl _ _⟩
end Clock
end Go.Proofs.Ytjelndobekcbmaa
